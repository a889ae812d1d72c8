/-
  The reference's text: how loose an operation is; a symbol's text.
-/
import Derived.Test.YtgdnhlckodhhgaaGreatJU
import Derived.Test.YtgdnhlckodhhgaaGreatJX
import Derived.Test.YtgdnhlckodhhgaaGreatJC
import Derived.Test.YtgdnhlckodhhgaaGreatJS2
namespace Go.Proofs.YtgdnhlckodhhgaaGreat
open Go.RowKit
set_option linter.unusedVariables false
set_option linter.unusedSimpArgs false
set_option maxRecDepth 100000 in
set_option maxHeartbeats 2000000 in
theorem rank_calls (op : Int) (s : Bs) (A : Option Addr) (n c : Nat) (w : World) :
    Calls Tryz.prog 44 #[.agg #[.int .i64 op, .string (bs s), .slice A n c]] w fun e w' => e = .returned (.int .i64 (lvl op : Nat)) ∧ Kp [] w w' := by
  rcases (by omega : op = 14 ∨ op = 7 ∨ op = 5 ∨ op = 6 ∨ op = 15 ∨ op = 13 ∨ op = 4 ∨ op = 11 ∨ op = 12 ∨ op = 8 ∨ op = 9 ∨ op = 10 ∨ (op ≠ 14 ∧ op ≠ 7 ∧ op ≠ 5 ∧ op ≠ 6 ∧ op ≠ 15 ∧ op ≠ 13 ∧ op ≠ 4 ∧ op ≠ 11 ∧ op ≠ 12 ∧ op ≠ 8 ∧ op ≠ 9 ∧ op ≠ 10)) with rfl | rfl | rfl | rfl | rfl | rfl | rfl | rfl | rfl | rfl | rfl | rfl | h
  case inr.inr.inr.inr.inr.inr.inr.inr.inr.inr.inr.inr =>
    have e14 : (op == 14) = false := by rw [beq_eq_false_iff_ne]; omega
    have e7 : (op == 7) = false := by rw [beq_eq_false_iff_ne]; omega
    have e5 : (op == 5) = false := by rw [beq_eq_false_iff_ne]; omega
    have e6 : (op == 6) = false := by rw [beq_eq_false_iff_ne]; omega
    have e15 : (op == 15) = false := by rw [beq_eq_false_iff_ne]; omega
    have e13 : (op == 13) = false := by rw [beq_eq_false_iff_ne]; omega
    have e4 : (op == 4) = false := by rw [beq_eq_false_iff_ne]; omega
    have e11 : (op == 11) = false := by rw [beq_eq_false_iff_ne]; omega
    have e12 : (op == 12) = false := by rw [beq_eq_false_iff_ne]; omega
    have e8 : (op == 8) = false := by rw [beq_eq_false_iff_ne]; omega
    have e9 : (op == 9) = false := by rw [beq_eq_false_iff_ne]; omega
    have e10 : (op == 10) = false := by rw [beq_eq_false_iff_ne]; omega
    have HE : Hid (lvl op = 9) := Hid.mk (by unfold lvl; rw [if_neg (by omega), if_neg (by omega), if_neg (by omega), if_neg (by omega), if_neg (by omega), if_neg (by omega), if_neg (by omega), if_neg (by omega), if_neg (by omega)])
    clear h
    go_enter Tryz.func44, Tryz.ntmps44
    go_wp2_with fail
    go_ret
    exact ⟨ret_int (by rw [HE.out]; rfl), (Kp.refl _ _).alloc _⟩
  all_goals
    go_enter Tryz.func44, Tryz.ntmps44
    go_wp2_with fail
    go_ret
    exact ⟨rfl, (Kp.refl _ _).alloc _⟩
set_option maxHeartbeats 400000 in
theorem rword_calls (c : Int) (w : World) :
    Calls Tryz.prog 73 #[.int .u8 c] w fun e w' => e = .returned (.bool (isNameI c)) ∧ w = w' := by
  go_enter Tryz.func73, Tryz.ntmps73
  go_wp2
  all_goals
    go_ret
    exact ⟨ret_bool (by rw [Bool.eq_iff_iff]; simp [isNameI]; omega), rfl⟩
set_option maxRecDepth 100000 in
set_option maxHeartbeats 2000000 in
theorem symText_calls (s : Bs) (h0 : s ≠ []) (hs : s.length ≤ 1099511627776) (w : World) :
    Calls Tryz.prog 47 #[.string (bs s)] w fun e w' => e = .returned (.string (bs (signT 0 s))) ∧ w = w' := by
  have hz := bs_size s
  have HN := Hid.mk (rword_calls)
  by_cases hl : 1 < s.length
  · have HS := Hid.mk (show bs [60] ++ bs s ++ bs [62] = bs (signT 0 s) by rw [bs_cat, bs_cat]; congr 1; unfold signT; simp [hl])
    have hl' : (1 : Int) < (s.length : Int) := by omega
    clear h0
    go_enter Tryz.func47, Tryz.ntmps47
    go_wp2_with fail
    go_ret
    exact ⟨by rw [← HS.out]; rfl, rfl⟩
  · obtain ⟨c0, rfl⟩ : ∃ c0, s = [c0] := by
      match s, h0, hl with
      | [c0], _, _ => exact ⟨c0, rfl⟩
      | a :: b :: l, _, hl => simp at hl
    have hg : (bs [c0])[0]'(by rw [bs_size]; simp) = c0 := bs_getI (s := [c0]) (j := 0) (by simp)
    clear hl h0 hz hs
    have hz : (bs [c0]).size = 1 := bs_size [c0]
    by_cases hn : nameB c0 = true
    · have HS := Hid.mk (show signT 0 [c0] = [c0] by unfold signT; simp [hn])
      have HB := Hid.mk (show isNameI (c0.toNat : Int) = true from hn)
      clear hn
      go_enter Tryz.func47, Tryz.ntmps47
      go_wp2_with fail
      refine (HN.out _ _).mono ?_
      rintro en w2 ⟨rfl, rfl⟩
      have hb := HB.out
      go_wp2_with fail
      go_ret
      exact ⟨by rw [HS.out]; rfl, rfl⟩
    · have hn' : nameB c0 = false := by simpa using hn
      have HS := Hid.mk (show bs [92] ++ bs [c0] = bs (signT 0 [c0]) by rw [bs_cat]; congr 1; unfold signT; simp [hn'])
      have HB := Hid.mk (show isNameI (c0.toNat : Int) = false from hn')
      clear hn hn'
      go_enter Tryz.func47, Tryz.ntmps47
      go_wp2_with fail
      refine (HN.out _ _).mono ?_
      rintro en w2 ⟨rfl, rfl⟩
      have hb := HB.out
      go_wp2_with fail
      go_ret
      exact ⟨by rw [← HS.out]; rfl, rfl⟩
end Go.Proofs.YtgdnhlckodhhgaaGreat

/-
  The reference's text: neighbours with a sign between.
-/
namespace Go.Proofs.YtgdnhlckodhhgaaGreat
open Go.RowKit
set_option linter.unusedVariables false
set_option linter.unusedSimpArgs false
/-- An expression's text is what the reference writes. -/
def WR (e : E) : Prop := ∀ (A : Option Addr) (c least : Nat) (w : World) (M : Heap), ExV M e A c → Mem w M → least ≤ 9 →
  Calls Tryz.prog 17 #[.agg #[.int .i64 e.op, .string (bs e.s), .slice A e.l.length c], .int .i64 (least : Nat)] w fun en w' => en = .returned (.string (bs (wt least e))) ∧ Kp [] w w'
def joinF (n m : Nat) (sep : Bs) : List E → Bs
  | [] => []
  | a :: r => wt n a ++ r.flatMap fun x => sep ++ wt m x
theorem joinF_snoc (n m : Nat) (sep : Bs) (l : List E) (x : E) (h : l ≠ []) : joinF n m sep (l ++ [x]) = joinF n m sep l ++ (sep ++ wt m x) := by
  cases l with
  | nil => exact absurd rfl h
  | cons a r => simp [joinF]
theorem joinF_take_len (n m : Nat) (sep : Bs) (l : List E) (j : Nat) : (joinF n m sep (l.take j)).length ≤ (joinF n m sep l).length := by
  cases l with
  | nil => simp [joinF]
  | cons a r =>
    cases j with
    | zero => simp [joinF]
    | succ j =>
      simp only [List.take_succ_cons, joinF, List.length_append]
      have : ((r.take j).flatMap fun x => sep ++ wt m x).length ≤ (r.flatMap fun x => sep ++ wt m x).length := by
        conv => rhs; rw [← List.take_append_drop j r]
        rw [List.flatMap_append, List.length_append]
        omega
      omega
theorem take_some {α : Type} {l : List α} {j : Nat} (h : 0 < j) (hj : j < l.length) : l.take j ≠ [] := by
  intro e
  have h2 := List.length_take (i := j) (l := l)
  rw [e] at h2
  simp only [List.length_nil] at h2
  omega
set_option maxRecDepth 100000 in
set_option maxHeartbeats 4000000 in
theorem joined_calls {e : E} {A : Option Addr} {c n m : Nat} {M : Heap} {sep : Bs} (he : ExV M e A c) (hl0 : 0 < e.l.length) (hl3 : e.l.length ≤ 1000) (ht : ∀ x, x ∈ e.l → WR x) (hn : n ≤ 9) (hm : m ≤ 9) (hsep : sep.length ≤ 10) (hz : (joinF n m sep e.l).length ≤ 100000) (w : World) (hM : Mem w M) :
    Calls Tryz.prog 46 #[.slice A e.l.length c, .int .i64 (n : Nat), .int .i64 (m : Nat), .string (bs sep)] w fun en w' => en = .returned (.string (bs (joinF n m sep e.l))) ∧ Kp [] w w' := by
  obtain ⟨ba, oa, rfl⟩ := he.place hl0
  have HA := Hid.mk he
  have HT : Hid (∀ x, x ∈ e.l → ∀ A c w k, k ≤ 9 → ExV M x A c → Mem w M → Calls Tryz.prog 17 #[.agg #[.int .i64 x.op, .string (bs x.s), .slice A x.l.length c], .int .i64 ((k : Nat) : Int)] w fun en w' => en = .returned (.string (bs (wt k x))) ∧ Kp [] w w') := Hid.mk (fun x hx A c w k hk h1 h2 => ht x hx A c k w M h1 h2 hk)
  have hss := bs_size sep
  clear ht he
  go_enter Tryz.func46, Tryz.ntmps46
  go_wp2_with fail
  go_loopg [9, 10] e.l.length (fun kk v9 v wr => ∃ (j : Nat), j ≤ e.l.length ∧ kk = e.l.length - j ∧ v = .int .i64 (j : Nat) ∧ v9 = .string (bs (joinF n m sep (e.l.take j))) ∧ Mem wr M ∧ Kp [] w wr)
  case atStart => exact ⟨0, Nat.zero_le _, by simp, rfl, rfl, hM, Kp.refl _ _⟩
  case round =>
    obtain ⟨j, hj, hkk, rfl, rfl, hM', hK⟩ := hrel
    by_cases hlt2 : j < e.l.length
    · obtain ⟨A', c', h0, h1, h2, hxa⟩ := HA.out.at_ j hlt2
      have q0 := hM'.cell h0
      have q1 := hM'.cell h1
      have q2 := hM'.cell h2
      have HTK : Hid (e.l.take (j + 1) = e.l.take j ++ [e.l[j]]) := Hid.mk (List.take_append_getElem hlt2).symm
      have hb1 := joinF_take_len n m sep e.l (j + 1)
      have HK := Hid.mk (And.intro hM' hK)
      by_cases hj0 : j = 0
      · subst hj0
        have HC := Hid.mk (HT.out e.l[0] (List.getElem_mem hlt2) A' c' wr n hn hxa hM')
        have HR : Hid (joinF n m sep (e.l.take (0 + 1)) = wt n e.l[0]) := Hid.mk (by rw [HTK.out]; simp [joinF])
        have b0 : ((0 : Nat) : Int) = 0 := rfl
        rw [show oa + 0 * 3 = oa by omega] at q0 q1 q2
        clear h0 h1 h2 hxa hM' hK hb1
        go_wp2_with fail
        refine HC.out.mono ?_
        rintro en w3 ⟨rfl, hk3⟩
        have HZ := Hid.mk (And.intro (HK.out.1.kp hk3 (by simp)) (HK.out.2.trans hk3))
        clear hk3
        go_wp2_with fail
        go_roundg (e.l.length - (0 + 1))
        case measure => omega
        case rel => exact ⟨0 + 1, by omega, rfl, rfl, by rw [HR.out], HZ.out.1, HZ.out.2⟩
      · have hjp : 0 < j := by omega
        have bj : ((j : Int) == 0) = false := by rw [beq_eq_false_iff_ne]; omega
        have HC := Hid.mk (HT.out e.l[j] (List.getElem_mem hlt2) A' c' wr m hm hxa hM')
        have HR : Hid (joinF n m sep (e.l.take (j + 1)) = joinF n m sep (e.l.take j) ++ (sep ++ wt m e.l[j])) := Hid.mk (by rw [HTK.out]; exact joinF_snoc _ _ _ _ _ (take_some hjp hlt2))
        rw [HR.out, List.length_append, List.length_append] at hb1
        have hs1 := bs_size (wt m e.l[j])
        have hs2 := bs_size (joinF n m sep (e.l.take j))
        have HB : Hid (bs (joinF n m sep (e.l.take j)) ++ (bs sep ++ bs (wt m e.l[j])) = bs (joinF n m sep (e.l.take (j + 1)))) := Hid.mk (by rw [HR.out, bs_cat, bs_cat])
        generalize wt m e.l[j] = t at *
        generalize joinF n m sep (e.l.take j) = u at *
        clear h0 h1 h2 hxa hM' hK
        go_wp2_with fail
        refine HC.out.mono ?_
        rintro en w3 ⟨rfl, hk3⟩
        have HZ := Hid.mk (And.intro (HK.out.1.kp hk3 (by simp)) (HK.out.2.trans hk3))
        clear hk3
        go_wp2_with fail
        go_roundg (e.l.length - (j + 1))
        case measure => omega
        case rel => exact ⟨j + 1, by omega, rfl, by go_num, by rw [← HB.out], HZ.out.1, HZ.out.2⟩
    · obtain rfl : j = e.l.length := by omega
      have hlt' : ¬ ((e.l.length : Int) < (e.l.length : Int)) := by omega
      have HX : Hid (joinF n m sep (e.l.take e.l.length) = joinF n m sep e.l) := Hid.mk (by rw [List.take_length])
      go_wp2_with fail
      go_ret
      exact ⟨rfl, hK⟩
end Go.Proofs.YtgdnhlckodhhgaaGreat

/-
  The reference's text: a restriction.
-/
namespace Go.Proofs.YtgdnhlckodhhgaaGreat
open Go.RowKit
set_option linter.unusedVariables false
set_option linter.unusedSimpArgs false
set_option maxRecDepth 100000 in
set_option maxHeartbeats 8000000 in
theorem onlyText_calls {a b d : E} (ha : WR a) (hb : WR b) (hd : WR d) (hz : a.txt.length ≤ 100000) (hzb : b.txt.length ≤ 100000) (hzd : d.txt.length ≤ 100000) (A : Option Addr) (c : Nat) (w : World) (M : Heap) (he : ExV M (.mk 14 [] [a, b, d]) A c) (hM : Mem w M) :
    Calls Tryz.prog 45 #[.slice A 3 c] w fun en w' => en = .returned (.string (bs (E.mk 14 [] [a, b, d]).txt)) ∧ Kp [] w w' := by
  obtain ⟨ba, oa, rfl⟩ := he.place (by simp [E.l])
  obtain ⟨A', a', hxa, hca⟩ := kid_cells he 0 (by simp [E.l])
  obtain ⟨B', b', hxb, hcb⟩ := kid_cells he 1 (by simp [E.l])
  obtain ⟨D', d', hxd, hcd⟩ := kid_cells he 2 (by simp [E.l])
  replace hxa : ExV M a A' a' := hxa
  replace hxb : ExV M b B' b' := hxb
  replace hxd : ExV M d D' d' := hxd
  rw [show oa + 0 * 3 = oa by omega] at hca
  rw [show oa + 1 * 3 = oa + 3 by omega] at hcb
  rw [show oa + 2 * 3 = oa + 6 by omega] at hcd
  replace hca : ∀ w, Mem w M → w.cell? ⟨ba, oa, none⟩ = some (Value.int .i64 a.op) ∧ w.cell? ⟨ba, oa + 1, none⟩ = some (Value.string (bs a.s)) ∧ w.cell? ⟨ba, oa + 2, none⟩ = some (Value.slice A' a.l.length a') := hca
  replace hcb : ∀ w, Mem w M → w.cell? ⟨ba, oa + 3, none⟩ = some (Value.int .i64 b.op) ∧ w.cell? ⟨ba, oa + 3 + 1, none⟩ = some (Value.string (bs b.s)) ∧ w.cell? ⟨ba, oa + 3 + 2, none⟩ = some (Value.slice B' b.l.length b') := hcb
  replace hcd : ∀ w, Mem w M → w.cell? ⟨ba, oa + 6, none⟩ = some (Value.int .i64 d.op) ∧ w.cell? ⟨ba, oa + 6 + 1, none⟩ = some (Value.string (bs d.s)) ∧ w.cell? ⟨ba, oa + 6 + 2, none⟩ = some (Value.slice D' d.l.length d') := hcd
  have HA : Hid (∀ w, Mem w M → Calls Tryz.prog 17 #[.agg #[.int .i64 a.op, .string (bs a.s), .slice A' a.l.length a'], .int .i64 1] w fun en w' => en = .returned (.string (bs (wt 1 a))) ∧ Kp [] w w') := Hid.mk (fun w hM => ha A' a' 1 w M hxa hM (by omega))
  have HB : Hid (∀ w, Mem w M → Calls Tryz.prog 17 #[.agg #[.int .i64 b.op, .string (bs b.s), .slice B' b.l.length b'], .int .i64 1] w fun en w' => en = .returned (.string (bs (wt 1 b))) ∧ Kp [] w w') := Hid.mk (fun w hM => hb B' b' 1 w M hxb hM (by omega))
  have HD : Hid (∀ w, Mem w M → Calls Tryz.prog 17 #[.agg #[.int .i64 d.op, .string (bs d.s), .slice D' d.l.length d'], .int .i64 1] w fun en w' => en = .returned (.string (bs (wt 1 d))) ∧ Kp [] w w') := Hid.mk (fun w hM => hd D' d' 1 w M hxd hM (by omega))
  have hta : (wt 1 a).length ≤ 100002 := by have := wt_len 1 a; omega
  have htb : (wt 1 b).length ≤ 100002 := by have := wt_len 1 b; omega
  have htd : (wt 1 d).length ≤ 100002 := by have := wt_len 1 d; omega
  have HTX : Hid ((E.mk 14 [] [a, b, d]).txt = wt 1 a ++ ([32, 61, 62, 32] ++ ((if b.op = 2 then [] else wt 1 b ++ [32]) ++ (95 :: (if d.op = 2 then [] else 32 :: wt 1 d))))) := Hid.mk rfl
  have hsa := bs_size (wt 1 a)
  have hsb := bs_size (wt 1 b)
  have hsd := bs_size (wt 1 d)
  generalize wt 1 a = t at *
  generalize wt 1 b = u at *
  generalize wt 1 d = v at *
  have H0 : Hid (∀ w', Kp [] w w' → Mem w' M ∧ (w'.cell? ⟨ba, oa, none⟩ = some (.int .i64 a.op) ∧ w'.cell? ⟨ba, oa + 1, none⟩ = some (.string (bs a.s)) ∧ w'.cell? ⟨ba, oa + 2, none⟩ = some (.slice A' a.l.length a')) ∧ (w'.cell? ⟨ba, oa + 3, none⟩ = some (.int .i64 b.op) ∧ w'.cell? ⟨ba, oa + 3 + 1, none⟩ = some (.string (bs b.s)) ∧ w'.cell? ⟨ba, oa + 3 + 2, none⟩ = some (.slice B' b.l.length b')) ∧ (w'.cell? ⟨ba, oa + 6, none⟩ = some (.int .i64 d.op) ∧ w'.cell? ⟨ba, oa + 6 + 1, none⟩ = some (.string (bs d.s)) ∧ w'.cell? ⟨ba, oa + 6 + 2, none⟩ = some (.slice D' d.l.length d'))) := Hid.mk (fun w' hk => by
    have hm := hM.kp hk (by simp)
    exact ⟨hm, hca _ hm, hcb _ hm, hcd _ hm⟩)
  clear ha hb hd hca hcb hcd hxa hxb hxd hM he
  have hb2 : (b.op = 2 ∧ (b.op != 2) = false) ∨ (¬ b.op = 2 ∧ (b.op != 2) = true) := by
    by_cases h : b.op = 2
    · exact .inl ⟨h, by simp [h]⟩
    · exact .inr ⟨h, by simpa using h⟩
  have hd2 : (d.op = 2 ∧ (d.op != 2) = false) ∨ (¬ d.op = 2 ∧ (d.op != 2) = true) := by
    by_cases h : d.op = 2
    · exact .inl ⟨h, by simp [h]⟩
    · exact .inr ⟨h, by simpa using h⟩
  rcases hb2 with ⟨hb2, hbb⟩ | ⟨hb2, hbb⟩
  · rcases hd2 with ⟨hd2, hdd⟩ | ⟨hd2, hdd⟩
    · have HS : Hid (bs t ++ bs [32, 61, 62] ++ bs [32, 95] = bs (E.mk 14 [] [a, b, d]).txt) := Hid.mk (by rw [HTX.out, if_pos hb2, if_pos hd2, bs_cat, bs_cat]; simp)
      clear hb2 hd2 HTX
      generalize hob : b.op = ob at *
      generalize hod : d.op = od at *
      clear hob hod
      obtain ⟨hM1, ⟨a0, a1, a2⟩, ⟨b0, b1, b2⟩, ⟨d0, d1, d2⟩⟩ := H0.out _ (Kp.refl _ _)
      have HK1 := Hid.mk hM1
      clear hM1
      go_enter Tryz.func45, Tryz.ntmps45
      go_wp2_with fail
      refine (HA.out _ HK1.out).mono ?_
      rintro en w3 ⟨rfl, hk3⟩
      clear a0 a1 a2 b0 b1 b2 d0 d1 d2
      obtain ⟨hM1, ⟨a0, a1, a2⟩, ⟨b0, b1, b2⟩, ⟨d0, d1, d2⟩⟩ := H0.out _ hk3
      have HK3 := Hid.mk (And.intro hM1 hk3)
      clear hM1 hk3
      go_wp2_with fail
      go_ret
      exact ⟨by rw [← HS.out]; rfl, HK3.out.2⟩
    · have HS : Hid (bs t ++ bs [32, 61, 62] ++ bs [32, 95] ++ (bs [32] ++ bs v) = bs (E.mk 14 [] [a, b, d]).txt) := Hid.mk (by rw [HTX.out, if_pos hb2, if_neg hd2, bs_cat, bs_cat, bs_cat, bs_cat]; simp)
      clear hb2 hd2 HTX
      obtain ⟨hM1, ⟨a0, a1, a2⟩, ⟨b0, b1, b2⟩, ⟨d0, d1, d2⟩⟩ := H0.out _ (Kp.refl _ _)
      have HK1 := Hid.mk hM1
      clear hM1
      go_enter Tryz.func45, Tryz.ntmps45
      go_wp2_with fail
      refine (HA.out _ HK1.out).mono ?_
      rintro en w3 ⟨rfl, hk3⟩
      clear a0 a1 a2 b0 b1 b2 d0 d1 d2
      obtain ⟨hM1, ⟨a0, a1, a2⟩, ⟨b0, b1, b2⟩, ⟨d0, d1, d2⟩⟩ := H0.out _ hk3
      have HK3 := Hid.mk (And.intro hM1 hk3)
      clear hM1 hk3
      go_wp2_with fail
      refine (HD.out _ HK3.out.1).mono ?_
      rintro en w4 ⟨rfl, hk4⟩
      have HK4 := Hid.mk (HK3.out.2.trans hk4)
      clear hk4 a0 a1 a2 b0 b1 b2 d0 d1 d2
      go_wp2_with fail
      go_ret
      exact ⟨by rw [← HS.out]; rfl, HK4.out⟩
  · rcases hd2 with ⟨hd2, hdd⟩ | ⟨hd2, hdd⟩
    · have HS : Hid (bs t ++ bs [32, 61, 62] ++ (bs [32] ++ bs u) ++ bs [32, 95] = bs (E.mk 14 [] [a, b, d]).txt) := Hid.mk (by rw [HTX.out, if_neg hb2, if_pos hd2, bs_cat, bs_cat, bs_cat, bs_cat]; simp)
      clear hb2 hd2 HTX
      obtain ⟨hM1, ⟨a0, a1, a2⟩, ⟨b0, b1, b2⟩, ⟨d0, d1, d2⟩⟩ := H0.out _ (Kp.refl _ _)
      have HK1 := Hid.mk hM1
      clear hM1
      go_enter Tryz.func45, Tryz.ntmps45
      go_wp2_with fail
      refine (HA.out _ HK1.out).mono ?_
      rintro en w3 ⟨rfl, hk3⟩
      clear a0 a1 a2 b0 b1 b2 d0 d1 d2
      obtain ⟨hM1, ⟨a0, a1, a2⟩, ⟨b0, b1, b2⟩, ⟨d0, d1, d2⟩⟩ := H0.out _ hk3
      have HK3 := Hid.mk (And.intro hM1 hk3)
      clear hM1 hk3
      go_wp2_with fail
      refine (HB.out _ HK3.out.1).mono ?_
      rintro en w4 ⟨rfl, hk4⟩
      clear a0 a1 a2 b0 b1 b2 d0 d1 d2
      obtain ⟨hM1, ⟨a0, a1, a2⟩, ⟨b0, b1, b2⟩, ⟨d0, d1, d2⟩⟩ := H0.out _ (HK3.out.2.trans hk4)
      have HK4 := Hid.mk (And.intro hM1 (HK3.out.2.trans hk4))
      clear hM1 hk4
      go_wp2_with fail
      go_ret
      exact ⟨by rw [← HS.out]; rfl, HK4.out.2⟩
    · have HS : Hid (bs t ++ bs [32, 61, 62] ++ (bs [32] ++ bs u) ++ bs [32, 95] ++ (bs [32] ++ bs v) = bs (E.mk 14 [] [a, b, d]).txt) := Hid.mk (by rw [HTX.out, if_neg hb2, if_neg hd2, bs_cat, bs_cat, bs_cat, bs_cat, bs_cat, bs_cat]; simp)
      clear hb2 hd2 HTX
      obtain ⟨hM1, ⟨a0, a1, a2⟩, ⟨b0, b1, b2⟩, ⟨d0, d1, d2⟩⟩ := H0.out _ (Kp.refl _ _)
      have HK1 := Hid.mk hM1
      clear hM1
      go_enter Tryz.func45, Tryz.ntmps45
      go_wp2_with fail
      refine (HA.out _ HK1.out).mono ?_
      rintro en w3 ⟨rfl, hk3⟩
      clear a0 a1 a2 b0 b1 b2 d0 d1 d2
      obtain ⟨hM1, ⟨a0, a1, a2⟩, ⟨b0, b1, b2⟩, ⟨d0, d1, d2⟩⟩ := H0.out _ hk3
      have HK3 := Hid.mk (And.intro hM1 hk3)
      clear hM1 hk3
      go_wp2_with fail
      refine (HB.out _ HK3.out.1).mono ?_
      rintro en w4 ⟨rfl, hk4⟩
      clear a0 a1 a2 b0 b1 b2 d0 d1 d2
      obtain ⟨hM1, ⟨a0, a1, a2⟩, ⟨b0, b1, b2⟩, ⟨d0, d1, d2⟩⟩ := H0.out _ (HK3.out.2.trans hk4)
      have HK4 := Hid.mk (And.intro hM1 (HK3.out.2.trans hk4))
      clear hM1 hk4
      go_wp2_with fail
      refine (HD.out _ HK4.out.1).mono ?_
      rintro en w5 ⟨rfl, hk5⟩
      have HK5 := Hid.mk (HK4.out.2.trans hk5)
      clear hk5 a0 a1 a2 b0 b1 b2 d0 d1 d2
      go_wp2_with fail
      go_ret
      exact ⟨by rw [← HS.out]; rfl, HK5.out⟩
end Go.Proofs.YtgdnhlckodhhgaaGreat

/-
  The reference's text: each node.
-/
namespace Go.Proofs.YtgdnhlckodhhgaaGreat
open Go.RowKit
set_option linter.unusedVariables false
set_option linter.unusedSimpArgs false
/-- What stands behind the first call. -/
theorem box_later {M : Heap} {w : World} (hM : Mem w M) (x y z : Value) : ∀ w', Kp [] (w.alloc (.cells #[x, y, z] 24)) w' → Mem w' M ∧ (w'.cell? ⟨w.heap.size, 0, none⟩ = some x ∧ w'.cell? ⟨w.heap.size, 1, none⟩ = some y ∧ w'.cell? ⟨w.heap.size, 2, none⟩ = some z) ∧ Kp [] w w' := fun w' hk =>
  ⟨(hM.alloc _).kp hk (by simp), ((Box.new hM #[x, y, z] 24).same hk (by simp)).three.1, ((Kp.refl _ _).alloc _).trans hk⟩
set_option maxRecDepth 100000 in
set_option maxHeartbeats 4000000 in
theorem wr_many7 {l : List E} (h2 : l.length = 2) (hl3 : l.length ≤ 1000) (ht : ∀ x, x ∈ l → WR x) (hz : (E.mk 7 [] l).txt.length ≤ 100000) (A : Option Addr) (c least : Nat) (w : World) (M : Heap) (he : ExV M (.mk 7 [] l) A c) (hM : Mem w M) (hl : least ≤ 1) :
    Calls Tryz.prog 17 #[.agg #[.int .i64 7, .string (bs []), .slice A l.length c], .int .i64 (least : Nat)] w fun en w' => en = .returned (.string (bs (E.mk 7 [] l).txt)) ∧ Kp [] w w' := by
  have HTX : (E.mk 7 [] l).txt = joinF 1 2 [32, 45, 32] l := by
    match l, h2 with
    | [a, b], _ => show wt 1 a ++ ([32, 45, 32] ++ wt 2 b) = _; simp [joinF]
  have HJ : Hid (∀ w', Mem w' M → Calls Tryz.prog 46 #[.slice A l.length c, .int .i64 1, .int .i64 2, .string ⟨#[32, 45, 32]⟩] w' fun en w'' => en = .returned (.string (bs (joinF 1 2 [32, 45, 32] l))) ∧ Kp [] w' w'') := Hid.mk (fun w' hM' => joined_calls (e := .mk 7 [] l) (n := 1) (m := 2) (sep := [32, 45, 32]) he (by show 0 < l.length; omega) hl3 ht (by omega) (by omega) (by simp) (by show (joinF _ _ _ l).length ≤ _; rw [← HTX]; exact hz) w' hM')
  rw [← HTX] at HJ
  have HB := Hid.mk (box_later hM (.int .i64 7) (.string (bs [])) (.slice A l.length c))
  have HL : Hid (∀ w, Calls Tryz.prog 44 #[.agg #[.int .i64 7, .string (bs []), .slice A l.length c]] w fun e w' => e = .returned (.int .i64 1) ∧ Kp [] w w') := Hid.mk (fun w => rank_calls 7 [] A l.length c w)
  have hlt : ¬ (1 : Int) < (least : Int) := by omega
  generalize (E.mk 7 [] l).txt = t at *
  clear ht he hM HTX h2
  go_enter Tryz.func17, Tryz.ntmps17
  go_wp2_with fail
  refine (HL.out _).mono ?_
  rintro en w2 ⟨rfl, hk2⟩
  obtain ⟨hM2, ⟨z0, z1, z2⟩, hK2⟩ := HB.out _ hk2
  have HK := Hid.mk (And.intro hM2 hK2)
  clear hM2 hK2 hk2
  go_wp2_with fail
  refine (HJ.out _ HK.out.1).mono ?_
  rintro en w3 ⟨rfl, hk3⟩
  have HZ := Hid.mk (HK.out.2.trans hk3)
  clear hk3
  go_wp2_with fail
  go_ret
  exact ⟨rfl, HZ.out⟩
set_option maxRecDepth 100000 in
set_option maxHeartbeats 4000000 in
theorem wr_many5 {l : List E} (h2 : 2 ≤ l.length) (hl3 : l.length ≤ 1000) (ht : ∀ x, x ∈ l → WR x) (hz : (E.mk 5 [] l).txt.length ≤ 100000) (A : Option Addr) (c least : Nat) (w : World) (M : Heap) (he : ExV M (.mk 5 [] l) A c) (hM : Mem w M) (hl : least ≤ 2) :
    Calls Tryz.prog 17 #[.agg #[.int .i64 5, .string (bs []), .slice A l.length c], .int .i64 (least : Nat)] w fun en w' => en = .returned (.string (bs (E.mk 5 [] l).txt)) ∧ Kp [] w w' := by
  have HTX : (E.mk 5 [] l).txt = joinF 3 3 [32, 124, 32] l := by
    show joinT [32, 124, 32] ((txts l).map (wr 3)) = _
    rw [txts_map, List.map_map]
    cases l with
    | nil => rfl
    | cons a r => simp only [List.map_cons, joinT, joinF, List.flatMap_map]; rfl
  have HJ : Hid (∀ w', Mem w' M → Calls Tryz.prog 46 #[.slice A l.length c, .int .i64 3, .int .i64 3, .string ⟨#[32, 124, 32]⟩] w' fun en w'' => en = .returned (.string (bs (joinF 3 3 [32, 124, 32] l))) ∧ Kp [] w' w'') := Hid.mk (fun w' hM' => joined_calls (e := .mk 5 [] l) (n := 3) (m := 3) (sep := [32, 124, 32]) he (by show 0 < l.length; omega) hl3 ht (by omega) (by omega) (by simp) (by show (joinF _ _ _ l).length ≤ _; rw [← HTX]; exact hz) w' hM')
  rw [← HTX] at HJ
  have HB := Hid.mk (box_later hM (.int .i64 5) (.string (bs [])) (.slice A l.length c))
  have HL : Hid (∀ w, Calls Tryz.prog 44 #[.agg #[.int .i64 5, .string (bs []), .slice A l.length c]] w fun e w' => e = .returned (.int .i64 2) ∧ Kp [] w w') := Hid.mk (fun w => rank_calls 5 [] A l.length c w)
  have hlt : ¬ (2 : Int) < (least : Int) := by omega
  generalize (E.mk 5 [] l).txt = t at *
  clear ht he hM HTX h2
  go_enter Tryz.func17, Tryz.ntmps17
  go_wp2_with fail
  refine (HL.out _).mono ?_
  rintro en w2 ⟨rfl, hk2⟩
  obtain ⟨hM2, ⟨z0, z1, z2⟩, hK2⟩ := HB.out _ hk2
  have HK := Hid.mk (And.intro hM2 hK2)
  clear hM2 hK2 hk2
  go_wp2_with fail
  refine (HJ.out _ HK.out.1).mono ?_
  rintro en w3 ⟨rfl, hk3⟩
  have HZ := Hid.mk (HK.out.2.trans hk3)
  clear hk3
  go_wp2_with fail
  go_ret
  exact ⟨rfl, HZ.out⟩
set_option maxRecDepth 100000 in
set_option maxHeartbeats 4000000 in
theorem wr_many6 {l : List E} (h2 : 2 ≤ l.length) (hl3 : l.length ≤ 1000) (ht : ∀ x, x ∈ l → WR x) (hz : (E.mk 6 [] l).txt.length ≤ 100000) (A : Option Addr) (c least : Nat) (w : World) (M : Heap) (he : ExV M (.mk 6 [] l) A c) (hM : Mem w M) (hl : least ≤ 3) :
    Calls Tryz.prog 17 #[.agg #[.int .i64 6, .string (bs []), .slice A l.length c], .int .i64 (least : Nat)] w fun en w' => en = .returned (.string (bs (E.mk 6 [] l).txt)) ∧ Kp [] w w' := by
  have HTX : (E.mk 6 [] l).txt = joinF 4 4 [32, 38, 32] l := by
    show joinT [32, 38, 32] ((txts l).map (wr 4)) = _
    rw [txts_map, List.map_map]
    cases l with
    | nil => rfl
    | cons a r => simp only [List.map_cons, joinT, joinF, List.flatMap_map]; rfl
  have HJ : Hid (∀ w', Mem w' M → Calls Tryz.prog 46 #[.slice A l.length c, .int .i64 4, .int .i64 4, .string ⟨#[32, 38, 32]⟩] w' fun en w'' => en = .returned (.string (bs (joinF 4 4 [32, 38, 32] l))) ∧ Kp [] w' w'') := Hid.mk (fun w' hM' => joined_calls (e := .mk 6 [] l) (n := 4) (m := 4) (sep := [32, 38, 32]) he (by show 0 < l.length; omega) hl3 ht (by omega) (by omega) (by simp) (by show (joinF _ _ _ l).length ≤ _; rw [← HTX]; exact hz) w' hM')
  rw [← HTX] at HJ
  have HB := Hid.mk (box_later hM (.int .i64 6) (.string (bs [])) (.slice A l.length c))
  have HL : Hid (∀ w, Calls Tryz.prog 44 #[.agg #[.int .i64 6, .string (bs []), .slice A l.length c]] w fun e w' => e = .returned (.int .i64 3) ∧ Kp [] w w') := Hid.mk (fun w => rank_calls 6 [] A l.length c w)
  have hlt : ¬ (3 : Int) < (least : Int) := by omega
  generalize (E.mk 6 [] l).txt = t at *
  clear ht he hM HTX h2
  go_enter Tryz.func17, Tryz.ntmps17
  go_wp2_with fail
  refine (HL.out _).mono ?_
  rintro en w2 ⟨rfl, hk2⟩
  obtain ⟨hM2, ⟨z0, z1, z2⟩, hK2⟩ := HB.out _ hk2
  have HK := Hid.mk (And.intro hM2 hK2)
  clear hM2 hK2 hk2
  go_wp2_with fail
  refine (HJ.out _ HK.out.1).mono ?_
  rintro en w3 ⟨rfl, hk3⟩
  have HZ := Hid.mk (HK.out.2.trans hk3)
  clear hk3
  go_wp2_with fail
  go_ret
  exact ⟨rfl, HZ.out⟩
set_option maxRecDepth 100000 in
set_option maxHeartbeats 4000000 in
theorem wr_many15 {l : List E} (h2 : l.length = 2) (hl3 : l.length ≤ 1000) (ht : ∀ x, x ∈ l → WR x) (hz : (E.mk 15 [] l).txt.length ≤ 100000) (A : Option Addr) (c least : Nat) (w : World) (M : Heap) (he : ExV M (.mk 15 [] l) A c) (hM : Mem w M) (hl : least ≤ 4) :
    Calls Tryz.prog 17 #[.agg #[.int .i64 15, .string (bs []), .slice A l.length c], .int .i64 (least : Nat)] w fun en w' => en = .returned (.string (bs (E.mk 15 [] l).txt)) ∧ Kp [] w w' := by
  have HTX : (E.mk 15 [] l).txt = joinF 4 5 [32, 37, 32] l := by
    match l, h2 with
    | [a, b], _ => show wt 4 a ++ ([32, 37, 32] ++ wt 5 b) = _; simp [joinF]
  have HJ : Hid (∀ w', Mem w' M → Calls Tryz.prog 46 #[.slice A l.length c, .int .i64 4, .int .i64 5, .string ⟨#[32, 37, 32]⟩] w' fun en w'' => en = .returned (.string (bs (joinF 4 5 [32, 37, 32] l))) ∧ Kp [] w' w'') := Hid.mk (fun w' hM' => joined_calls (e := .mk 15 [] l) (n := 4) (m := 5) (sep := [32, 37, 32]) he (by show 0 < l.length; omega) hl3 ht (by omega) (by omega) (by simp) (by show (joinF _ _ _ l).length ≤ _; rw [← HTX]; exact hz) w' hM')
  rw [← HTX] at HJ
  have HB := Hid.mk (box_later hM (.int .i64 15) (.string (bs [])) (.slice A l.length c))
  have HL : Hid (∀ w, Calls Tryz.prog 44 #[.agg #[.int .i64 15, .string (bs []), .slice A l.length c]] w fun e w' => e = .returned (.int .i64 4) ∧ Kp [] w w') := Hid.mk (fun w => rank_calls 15 [] A l.length c w)
  have hlt : ¬ (4 : Int) < (least : Int) := by omega
  generalize (E.mk 15 [] l).txt = t at *
  clear ht he hM HTX h2
  go_enter Tryz.func17, Tryz.ntmps17
  go_wp2_with fail
  refine (HL.out _).mono ?_
  rintro en w2 ⟨rfl, hk2⟩
  obtain ⟨hM2, ⟨z0, z1, z2⟩, hK2⟩ := HB.out _ hk2
  have HK := Hid.mk (And.intro hM2 hK2)
  clear hM2 hK2 hk2
  go_wp2_with fail
  refine (HJ.out _ HK.out.1).mono ?_
  rintro en w3 ⟨rfl, hk3⟩
  have HZ := Hid.mk (HK.out.2.trans hk3)
  clear hk3
  go_wp2_with fail
  go_ret
  exact ⟨rfl, HZ.out⟩
set_option maxRecDepth 100000 in
set_option maxHeartbeats 4000000 in
theorem wr_many13 {l : List E} (h2 : l.length = 2) (hl3 : l.length ≤ 1000) (ht : ∀ x, x ∈ l → WR x) (hz : (E.mk 13 [] l).txt.length ≤ 100000) (A : Option Addr) (c least : Nat) (w : World) (M : Heap) (he : ExV M (.mk 13 [] l) A c) (hM : Mem w M) (hl : least ≤ 5) :
    Calls Tryz.prog 17 #[.agg #[.int .i64 13, .string (bs []), .slice A l.length c], .int .i64 (least : Nat)] w fun en w' => en = .returned (.string (bs (E.mk 13 [] l).txt)) ∧ Kp [] w w' := by
  have HTX : (E.mk 13 [] l).txt = joinF 5 6 [32, 47, 32] l := by
    match l, h2 with
    | [a, b], _ => show wt 5 a ++ ([32, 47, 32] ++ wt 6 b) = _; simp [joinF]
  have HJ : Hid (∀ w', Mem w' M → Calls Tryz.prog 46 #[.slice A l.length c, .int .i64 5, .int .i64 6, .string ⟨#[32, 47, 32]⟩] w' fun en w'' => en = .returned (.string (bs (joinF 5 6 [32, 47, 32] l))) ∧ Kp [] w' w'') := Hid.mk (fun w' hM' => joined_calls (e := .mk 13 [] l) (n := 5) (m := 6) (sep := [32, 47, 32]) he (by show 0 < l.length; omega) hl3 ht (by omega) (by omega) (by simp) (by show (joinF _ _ _ l).length ≤ _; rw [← HTX]; exact hz) w' hM')
  rw [← HTX] at HJ
  have HB := Hid.mk (box_later hM (.int .i64 13) (.string (bs [])) (.slice A l.length c))
  have HL : Hid (∀ w, Calls Tryz.prog 44 #[.agg #[.int .i64 13, .string (bs []), .slice A l.length c]] w fun e w' => e = .returned (.int .i64 5) ∧ Kp [] w w') := Hid.mk (fun w => rank_calls 13 [] A l.length c w)
  have hlt : ¬ (5 : Int) < (least : Int) := by omega
  generalize (E.mk 13 [] l).txt = t at *
  clear ht he hM HTX h2
  go_enter Tryz.func17, Tryz.ntmps17
  go_wp2_with fail
  refine (HL.out _).mono ?_
  rintro en w2 ⟨rfl, hk2⟩
  obtain ⟨hM2, ⟨z0, z1, z2⟩, hK2⟩ := HB.out _ hk2
  have HK := Hid.mk (And.intro hM2 hK2)
  clear hM2 hK2 hk2
  go_wp2_with fail
  refine (HJ.out _ HK.out.1).mono ?_
  rintro en w3 ⟨rfl, hk3⟩
  have HZ := Hid.mk (HK.out.2.trans hk3)
  clear hk3
  go_wp2_with fail
  go_ret
  exact ⟨rfl, HZ.out⟩
set_option maxRecDepth 100000 in
set_option maxHeartbeats 4000000 in
theorem wr_many4 {l : List E} (h2 : 2 ≤ l.length) (hl3 : l.length ≤ 1000) (ht : ∀ x, x ∈ l → WR x) (hz : (E.mk 4 [] l).txt.length ≤ 100000) (A : Option Addr) (c least : Nat) (w : World) (M : Heap) (he : ExV M (.mk 4 [] l) A c) (hM : Mem w M) (hl : least ≤ 6) :
    Calls Tryz.prog 17 #[.agg #[.int .i64 4, .string (bs []), .slice A l.length c], .int .i64 (least : Nat)] w fun en w' => en = .returned (.string (bs (E.mk 4 [] l).txt)) ∧ Kp [] w w' := by
  have HTX : (E.mk 4 [] l).txt = joinF 7 7 [] l := by
    show joinT [] ((txts l).map (wr 7)) = _
    rw [txts_map, List.map_map]
    cases l with
    | nil => rfl
    | cons a r => simp only [List.map_cons, joinT, joinF, List.flatMap_map]; rfl
  have HJ : Hid (∀ w', Mem w' M → Calls Tryz.prog 46 #[.slice A l.length c, .int .i64 7, .int .i64 7, .string ⟨#[]⟩] w' fun en w'' => en = .returned (.string (bs (joinF 7 7 [] l))) ∧ Kp [] w' w'') := Hid.mk (fun w' hM' => joined_calls (e := .mk 4 [] l) (n := 7) (m := 7) (sep := []) he (by show 0 < l.length; omega) hl3 ht (by omega) (by omega) (by simp) (by show (joinF _ _ _ l).length ≤ _; rw [← HTX]; exact hz) w' hM')
  rw [← HTX] at HJ
  have HB := Hid.mk (box_later hM (.int .i64 4) (.string (bs [])) (.slice A l.length c))
  have HL : Hid (∀ w, Calls Tryz.prog 44 #[.agg #[.int .i64 4, .string (bs []), .slice A l.length c]] w fun e w' => e = .returned (.int .i64 6) ∧ Kp [] w w') := Hid.mk (fun w => rank_calls 4 [] A l.length c w)
  have hlt : ¬ (6 : Int) < (least : Int) := by omega
  generalize (E.mk 4 [] l).txt = t at *
  clear ht he hM HTX h2
  go_enter Tryz.func17, Tryz.ntmps17
  go_wp2_with fail
  refine (HL.out _).mono ?_
  rintro en w2 ⟨rfl, hk2⟩
  obtain ⟨hM2, ⟨z0, z1, z2⟩, hK2⟩ := HB.out _ hk2
  have HK := Hid.mk (And.intro hM2 hK2)
  clear hM2 hK2 hk2
  go_wp2_with fail
  refine (HJ.out _ HK.out.1).mono ?_
  rintro en w3 ⟨rfl, hk3⟩
  have HZ := Hid.mk (HK.out.2.trans hk3)
  clear hk3
  go_wp2_with fail
  go_ret
  exact ⟨rfl, HZ.out⟩
set_option maxRecDepth 100000 in
set_option maxHeartbeats 4000000 in
theorem wr_one11 {a : E} (ha : WR a) (hz : a.txt.length ≤ 100000) (A : Option Addr) (c least : Nat) (w : World) (M : Heap) (he : ExV M (.mk 11 [] [a]) A c) (hM : Mem w M) (hl : least ≤ 7) :
    Calls Tryz.prog 17 #[.agg #[.int .i64 11, .string (bs []), .slice A 1 c], .int .i64 (least : Nat)] w fun en w' => en = .returned (.string (bs (E.mk 11 [] [a]).txt)) ∧ Kp [] w w' := by
  obtain ⟨ba, oa, rfl⟩ := he.place (by simp [E.l])
  obtain ⟨A', c', hxa, hc⟩ := kid_cells he 0 (by simp [E.l])
  replace hxa : ExV M a A' c' := hxa
  rw [show oa + 0 * 3 = oa by omega] at hc
  replace hc : ∀ w, Mem w M → w.cell? ⟨ba, oa, none⟩ = some (Value.int .i64 a.op) ∧ w.cell? ⟨ba, oa + 1, none⟩ = some (Value.string (bs a.s)) ∧ w.cell? ⟨ba, oa + 2, none⟩ = some (Value.slice A' a.l.length c') := hc
  have HA : Hid (∀ w, Mem w M → Calls Tryz.prog 17 #[.agg #[.int .i64 a.op, .string (bs a.s), .slice A' a.l.length c'], .int .i64 7] w fun en w' => en = .returned (.string (bs (wt 7 a))) ∧ Kp [] w w') := Hid.mk (fun w hM => ha A' c' 7 w M hxa hM (by omega))
  have HC := Hid.mk hc
  have HB := Hid.mk (box_later hM (.int .i64 11) (.string (bs [])) (.slice (some ⟨ba, oa, none⟩) 1 c))
  have HL : Hid (∀ w, Calls Tryz.prog 44 #[.agg #[.int .i64 11, .string (bs []), .slice (some ⟨ba, oa, none⟩) 1 c]] w fun e w' => e = .returned (.int .i64 7) ∧ Kp [] w w') := Hid.mk (fun w => rank_calls 11 [] (some ⟨ba, oa, none⟩) 1 c w)
  have hlt : ¬ (7 : Int) < (least : Int) := by omega
  have htl : (wt 7 a).length ≤ 100002 := by have := wt_len 7 a; omega
  have HS := Hid.mk (show bs [126] ++ bs (wt 7 a) = bs (E.mk 11 [] [a]).txt by rw [bs_cat]; rfl)
  have hsz := bs_size (wt 7 a)
  generalize wt 7 a = t at *
  clear ha hc hxa hM he
  go_enter Tryz.func17, Tryz.ntmps17
  go_wp2_with fail
  refine (HL.out _).mono ?_
  rintro en w2 ⟨rfl, hk2⟩
  obtain ⟨hM2, ⟨z0, z1, z2⟩, hK2⟩ := HB.out _ hk2
  obtain ⟨q0, q1, q2⟩ := HC.out _ hM2
  have HK := Hid.mk (And.intro hM2 hK2)
  clear hM2 hK2 hk2
  go_wp2_with fail
  refine (HA.out _ HK.out.1).mono ?_
  rintro en w3 ⟨rfl, hk3⟩
  have HZ := Hid.mk (HK.out.2.trans hk3)
  clear hk3
  go_wp2_with fail
  go_ret
  exact ⟨by rw [← HS.out]; rfl, HZ.out⟩
set_option maxRecDepth 100000 in
set_option maxHeartbeats 4000000 in
theorem wr_one12 {a : E} (ha : WR a) (hz : a.txt.length ≤ 100000) (A : Option Addr) (c least : Nat) (w : World) (M : Heap) (he : ExV M (.mk 12 [] [a]) A c) (hM : Mem w M) (hl : least ≤ 7) :
    Calls Tryz.prog 17 #[.agg #[.int .i64 12, .string (bs []), .slice A 1 c], .int .i64 (least : Nat)] w fun en w' => en = .returned (.string (bs (E.mk 12 [] [a]).txt)) ∧ Kp [] w w' := by
  obtain ⟨ba, oa, rfl⟩ := he.place (by simp [E.l])
  obtain ⟨A', c', hxa, hc⟩ := kid_cells he 0 (by simp [E.l])
  replace hxa : ExV M a A' c' := hxa
  rw [show oa + 0 * 3 = oa by omega] at hc
  replace hc : ∀ w, Mem w M → w.cell? ⟨ba, oa, none⟩ = some (Value.int .i64 a.op) ∧ w.cell? ⟨ba, oa + 1, none⟩ = some (Value.string (bs a.s)) ∧ w.cell? ⟨ba, oa + 2, none⟩ = some (Value.slice A' a.l.length c') := hc
  have HA : Hid (∀ w, Mem w M → Calls Tryz.prog 17 #[.agg #[.int .i64 a.op, .string (bs a.s), .slice A' a.l.length c'], .int .i64 7] w fun en w' => en = .returned (.string (bs (wt 7 a))) ∧ Kp [] w w') := Hid.mk (fun w hM => ha A' c' 7 w M hxa hM (by omega))
  have HC := Hid.mk hc
  have HB := Hid.mk (box_later hM (.int .i64 12) (.string (bs [])) (.slice (some ⟨ba, oa, none⟩) 1 c))
  have HL : Hid (∀ w, Calls Tryz.prog 44 #[.agg #[.int .i64 12, .string (bs []), .slice (some ⟨ba, oa, none⟩) 1 c]] w fun e w' => e = .returned (.int .i64 7) ∧ Kp [] w w') := Hid.mk (fun w => rank_calls 12 [] (some ⟨ba, oa, none⟩) 1 c w)
  have hlt : ¬ (7 : Int) < (least : Int) := by omega
  have htl : (wt 7 a).length ≤ 100002 := by have := wt_len 7 a; omega
  have HS := Hid.mk (show bs [36] ++ bs (wt 7 a) = bs (E.mk 12 [] [a]).txt by rw [bs_cat]; rfl)
  have hsz := bs_size (wt 7 a)
  generalize wt 7 a = t at *
  clear ha hc hxa hM he
  go_enter Tryz.func17, Tryz.ntmps17
  go_wp2_with fail
  refine (HL.out _).mono ?_
  rintro en w2 ⟨rfl, hk2⟩
  obtain ⟨hM2, ⟨z0, z1, z2⟩, hK2⟩ := HB.out _ hk2
  obtain ⟨q0, q1, q2⟩ := HC.out _ hM2
  have HK := Hid.mk (And.intro hM2 hK2)
  clear hM2 hK2 hk2
  go_wp2_with fail
  refine (HA.out _ HK.out.1).mono ?_
  rintro en w3 ⟨rfl, hk3⟩
  have HZ := Hid.mk (HK.out.2.trans hk3)
  clear hk3
  go_wp2_with fail
  go_ret
  exact ⟨by rw [← HS.out]; rfl, HZ.out⟩
set_option maxRecDepth 100000 in
set_option maxHeartbeats 4000000 in
theorem wr_one8 {a : E} (ha : WR a) (hz : a.txt.length ≤ 100000) (A : Option Addr) (c least : Nat) (w : World) (M : Heap) (he : ExV M (.mk 8 [] [a]) A c) (hM : Mem w M) (hl : least ≤ 8) :
    Calls Tryz.prog 17 #[.agg #[.int .i64 8, .string (bs []), .slice A 1 c], .int .i64 (least : Nat)] w fun en w' => en = .returned (.string (bs (E.mk 8 [] [a]).txt)) ∧ Kp [] w w' := by
  obtain ⟨ba, oa, rfl⟩ := he.place (by simp [E.l])
  obtain ⟨A', c', hxa, hc⟩ := kid_cells he 0 (by simp [E.l])
  replace hxa : ExV M a A' c' := hxa
  rw [show oa + 0 * 3 = oa by omega] at hc
  replace hc : ∀ w, Mem w M → w.cell? ⟨ba, oa, none⟩ = some (Value.int .i64 a.op) ∧ w.cell? ⟨ba, oa + 1, none⟩ = some (Value.string (bs a.s)) ∧ w.cell? ⟨ba, oa + 2, none⟩ = some (Value.slice A' a.l.length c') := hc
  have HA : Hid (∀ w, Mem w M → Calls Tryz.prog 17 #[.agg #[.int .i64 a.op, .string (bs a.s), .slice A' a.l.length c'], .int .i64 8] w fun en w' => en = .returned (.string (bs (wt 8 a))) ∧ Kp [] w w') := Hid.mk (fun w hM => ha A' c' 8 w M hxa hM (by omega))
  have HC := Hid.mk hc
  have HB := Hid.mk (box_later hM (.int .i64 8) (.string (bs [])) (.slice (some ⟨ba, oa, none⟩) 1 c))
  have HL : Hid (∀ w, Calls Tryz.prog 44 #[.agg #[.int .i64 8, .string (bs []), .slice (some ⟨ba, oa, none⟩) 1 c]] w fun e w' => e = .returned (.int .i64 8) ∧ Kp [] w w') := Hid.mk (fun w => rank_calls 8 [] (some ⟨ba, oa, none⟩) 1 c w)
  have hlt : ¬ (8 : Int) < (least : Int) := by omega
  have htl : (wt 8 a).length ≤ 100002 := by have := wt_len 8 a; omega
  have HS := Hid.mk (show bs (wt 8 a) ++ bs [42] = bs (E.mk 8 [] [a]).txt by rw [bs_cat]; rfl)
  have hsz := bs_size (wt 8 a)
  generalize wt 8 a = t at *
  clear ha hc hxa hM he
  go_enter Tryz.func17, Tryz.ntmps17
  go_wp2_with fail
  refine (HL.out _).mono ?_
  rintro en w2 ⟨rfl, hk2⟩
  obtain ⟨hM2, ⟨z0, z1, z2⟩, hK2⟩ := HB.out _ hk2
  obtain ⟨q0, q1, q2⟩ := HC.out _ hM2
  have HK := Hid.mk (And.intro hM2 hK2)
  clear hM2 hK2 hk2
  go_wp2_with fail
  refine (HA.out _ HK.out.1).mono ?_
  rintro en w3 ⟨rfl, hk3⟩
  have HZ := Hid.mk (HK.out.2.trans hk3)
  clear hk3
  go_wp2_with fail
  go_ret
  exact ⟨by rw [← HS.out]; rfl, HZ.out⟩
set_option maxRecDepth 100000 in
set_option maxHeartbeats 4000000 in
theorem wr_one9 {a : E} (ha : WR a) (hz : a.txt.length ≤ 100000) (A : Option Addr) (c least : Nat) (w : World) (M : Heap) (he : ExV M (.mk 9 [] [a]) A c) (hM : Mem w M) (hl : least ≤ 8) :
    Calls Tryz.prog 17 #[.agg #[.int .i64 9, .string (bs []), .slice A 1 c], .int .i64 (least : Nat)] w fun en w' => en = .returned (.string (bs (E.mk 9 [] [a]).txt)) ∧ Kp [] w w' := by
  obtain ⟨ba, oa, rfl⟩ := he.place (by simp [E.l])
  obtain ⟨A', c', hxa, hc⟩ := kid_cells he 0 (by simp [E.l])
  replace hxa : ExV M a A' c' := hxa
  rw [show oa + 0 * 3 = oa by omega] at hc
  replace hc : ∀ w, Mem w M → w.cell? ⟨ba, oa, none⟩ = some (Value.int .i64 a.op) ∧ w.cell? ⟨ba, oa + 1, none⟩ = some (Value.string (bs a.s)) ∧ w.cell? ⟨ba, oa + 2, none⟩ = some (Value.slice A' a.l.length c') := hc
  have HA : Hid (∀ w, Mem w M → Calls Tryz.prog 17 #[.agg #[.int .i64 a.op, .string (bs a.s), .slice A' a.l.length c'], .int .i64 8] w fun en w' => en = .returned (.string (bs (wt 8 a))) ∧ Kp [] w w') := Hid.mk (fun w hM => ha A' c' 8 w M hxa hM (by omega))
  have HC := Hid.mk hc
  have HB := Hid.mk (box_later hM (.int .i64 9) (.string (bs [])) (.slice (some ⟨ba, oa, none⟩) 1 c))
  have HL : Hid (∀ w, Calls Tryz.prog 44 #[.agg #[.int .i64 9, .string (bs []), .slice (some ⟨ba, oa, none⟩) 1 c]] w fun e w' => e = .returned (.int .i64 8) ∧ Kp [] w w') := Hid.mk (fun w => rank_calls 9 [] (some ⟨ba, oa, none⟩) 1 c w)
  have hlt : ¬ (8 : Int) < (least : Int) := by omega
  have htl : (wt 8 a).length ≤ 100002 := by have := wt_len 8 a; omega
  have HS := Hid.mk (show bs (wt 8 a) ++ bs [43] = bs (E.mk 9 [] [a]).txt by rw [bs_cat]; rfl)
  have hsz := bs_size (wt 8 a)
  generalize wt 8 a = t at *
  clear ha hc hxa hM he
  go_enter Tryz.func17, Tryz.ntmps17
  go_wp2_with fail
  refine (HL.out _).mono ?_
  rintro en w2 ⟨rfl, hk2⟩
  obtain ⟨hM2, ⟨z0, z1, z2⟩, hK2⟩ := HB.out _ hk2
  obtain ⟨q0, q1, q2⟩ := HC.out _ hM2
  have HK := Hid.mk (And.intro hM2 hK2)
  clear hM2 hK2 hk2
  go_wp2_with fail
  refine (HA.out _ HK.out.1).mono ?_
  rintro en w3 ⟨rfl, hk3⟩
  have HZ := Hid.mk (HK.out.2.trans hk3)
  clear hk3
  go_wp2_with fail
  go_ret
  exact ⟨by rw [← HS.out]; rfl, HZ.out⟩
set_option maxRecDepth 100000 in
set_option maxHeartbeats 4000000 in
theorem wr_one10 {a : E} (ha : WR a) (hz : a.txt.length ≤ 100000) (A : Option Addr) (c least : Nat) (w : World) (M : Heap) (he : ExV M (.mk 10 [] [a]) A c) (hM : Mem w M) (hl : least ≤ 8) :
    Calls Tryz.prog 17 #[.agg #[.int .i64 10, .string (bs []), .slice A 1 c], .int .i64 (least : Nat)] w fun en w' => en = .returned (.string (bs (E.mk 10 [] [a]).txt)) ∧ Kp [] w w' := by
  obtain ⟨ba, oa, rfl⟩ := he.place (by simp [E.l])
  obtain ⟨A', c', hxa, hc⟩ := kid_cells he 0 (by simp [E.l])
  replace hxa : ExV M a A' c' := hxa
  rw [show oa + 0 * 3 = oa by omega] at hc
  replace hc : ∀ w, Mem w M → w.cell? ⟨ba, oa, none⟩ = some (Value.int .i64 a.op) ∧ w.cell? ⟨ba, oa + 1, none⟩ = some (Value.string (bs a.s)) ∧ w.cell? ⟨ba, oa + 2, none⟩ = some (Value.slice A' a.l.length c') := hc
  have HA : Hid (∀ w, Mem w M → Calls Tryz.prog 17 #[.agg #[.int .i64 a.op, .string (bs a.s), .slice A' a.l.length c'], .int .i64 8] w fun en w' => en = .returned (.string (bs (wt 8 a))) ∧ Kp [] w w') := Hid.mk (fun w hM => ha A' c' 8 w M hxa hM (by omega))
  have HC := Hid.mk hc
  have HB := Hid.mk (box_later hM (.int .i64 10) (.string (bs [])) (.slice (some ⟨ba, oa, none⟩) 1 c))
  have HL : Hid (∀ w, Calls Tryz.prog 44 #[.agg #[.int .i64 10, .string (bs []), .slice (some ⟨ba, oa, none⟩) 1 c]] w fun e w' => e = .returned (.int .i64 8) ∧ Kp [] w w') := Hid.mk (fun w => rank_calls 10 [] (some ⟨ba, oa, none⟩) 1 c w)
  have hlt : ¬ (8 : Int) < (least : Int) := by omega
  have htl : (wt 8 a).length ≤ 100002 := by have := wt_len 8 a; omega
  have HS := Hid.mk (show bs (wt 8 a) ++ bs [63] = bs (E.mk 10 [] [a]).txt by rw [bs_cat]; rfl)
  have hsz := bs_size (wt 8 a)
  generalize wt 8 a = t at *
  clear ha hc hxa hM he
  go_enter Tryz.func17, Tryz.ntmps17
  go_wp2_with fail
  refine (HL.out _).mono ?_
  rintro en w2 ⟨rfl, hk2⟩
  obtain ⟨hM2, ⟨z0, z1, z2⟩, hK2⟩ := HB.out _ hk2
  obtain ⟨q0, q1, q2⟩ := HC.out _ hM2
  have HK := Hid.mk (And.intro hM2 hK2)
  clear hM2 hK2 hk2
  go_wp2_with fail
  refine (HA.out _ HK.out.1).mono ?_
  rintro en w3 ⟨rfl, hk3⟩
  have HZ := Hid.mk (HK.out.2.trans hk3)
  clear hk3
  go_wp2_with fail
  go_ret
  exact ⟨by rw [← HS.out]; rfl, HZ.out⟩
set_option maxRecDepth 100000 in
set_option maxHeartbeats 4000000 in
theorem wr_only {a b d : E} (ha : WR a) (hb : WR b) (hd : WR d) (hz : a.txt.length ≤ 100000) (hzb : b.txt.length ≤ 100000) (hzd : d.txt.length ≤ 100000) (A : Option Addr) (c : Nat) (w : World) (M : Heap) (he : ExV M (.mk 14 [] [a, b, d]) A c) (hM : Mem w M) :
    Calls Tryz.prog 17 #[.agg #[.int .i64 14, .string (bs []), .slice A 3 c], .int .i64 0] w fun en w' => en = .returned (.string (bs (E.mk 14 [] [a, b, d]).txt)) ∧ Kp [] w w' := by
  have HO := Hid.mk (fun w' (hM' : Mem w' M) => onlyText_calls ha hb hd hz hzb hzd A c w' M he hM')
  have HB := Hid.mk (box_later hM (.int .i64 14) (.string (bs [])) (.slice A 3 c))
  have HL : Hid (∀ w, Calls Tryz.prog 44 #[.agg #[.int .i64 14, .string (bs []), .slice A 3 c]] w fun e w' => e = .returned (.int .i64 0) ∧ Kp [] w w') := Hid.mk (fun w => rank_calls 14 [] A 3 c w)
  generalize (E.mk 14 [] [a, b, d]).txt = t at *
  clear ha hb hd he hM hz hzb hzd
  go_enter Tryz.func17, Tryz.ntmps17
  go_wp2_with fail
  refine (HL.out _).mono ?_
  rintro en w2 ⟨rfl, hk2⟩
  obtain ⟨hM2, ⟨z0, z1, z2⟩, hK2⟩ := HB.out _ hk2
  have HK := Hid.mk (And.intro hM2 hK2)
  clear hM2 hK2 hk2
  go_wp2_with fail
  refine (HO.out _ HK.out.1).mono ?_
  rintro en w3 ⟨rfl, hk3⟩
  have HZ := Hid.mk (HK.out.2.trans hk3)
  clear hk3
  go_wp2_with fail
  go_ret
  exact ⟨rfl, HZ.out⟩
set_option maxRecDepth 100000 in
set_option maxHeartbeats 4000000 in
theorem wr_leaf {op : Int} {s : Bs} (h : op = 0 ∧ s ≠ [] ∨ op = 1 ∨ op = 2 ∨ op = 3) (hs : s.length ≤ 100000) (A : Option Addr) (c least : Nat) (w : World) (M : Heap) (hM : Mem w M) (hl : least ≤ 9) :
    Calls Tryz.prog 17 #[.agg #[.int .i64 op, .string (bs s), .slice A 0 c], .int .i64 (least : Nat)] w fun en w' => en = .returned (.string (bs (E.mk op s []).txt)) ∧ Kp [] w w' := by
  have HB := Hid.mk (box_later hM (.int .i64 op) (.string (bs s)) (.slice A 0 c))
  have HL : Hid (∀ w, Calls Tryz.prog 44 #[.agg #[.int .i64 op, .string (bs s), .slice A 0 c]] w fun e w' => e = .returned (.int .i64 9) ∧ Kp [] w w') := Hid.mk (fun w => by rcases h with ⟨rfl, _⟩ | rfl | rfl | rfl <;> exact rank_calls _ s A 0 c w)
  have hlt : ¬ (9 : Int) < (least : Int) := by omega
  clear hM
  rcases h with ⟨rfl, h0⟩ | rfl | rfl | rfl
  · have HS : Hid (∀ w, Calls Tryz.prog 47 #[.string (bs s)] w fun e w' => e = .returned (.string (bs (E.mk 0 s []).txt)) ∧ w = w') := Hid.mk (fun w => symText_calls s h0 (by omega) w)
    generalize (E.mk 0 s []).txt = t at *
    go_enter Tryz.func17, Tryz.ntmps17
    go_wp2_with fail
    refine (HL.out _).mono ?_
    rintro en w2 ⟨rfl, hk2⟩
    obtain ⟨hM2, ⟨z0, z1, z2⟩, hK2⟩ := HB.out _ hk2
    have HK := Hid.mk hK2
    clear hM2 hK2 hk2
    go_wp2_with fail
    refine (HS.out _).mono ?_
    rintro en w3 ⟨rfl, rfl⟩
    go_wp2_with fail
    go_ret
    exact ⟨rfl, HK.out⟩
  all_goals
    go_enter Tryz.func17, Tryz.ntmps17
    go_wp2_with fail
    refine (HL.out _).mono ?_
    rintro en w2 ⟨rfl, hk2⟩
    obtain ⟨hM2, ⟨z0, z1, z2⟩, hK2⟩ := HB.out _ hk2
    have HK := Hid.mk hK2
    clear hM2 hK2 hk2
    go_wp2_with fail
    go_ret
    exact ⟨rfl, HK.out⟩
/-- Where no brackets are wanted. -/
theorem wr_at {e : E} (he : Okay e) (hn : e.size ≤ 100) (ht : ∀ x, x ∈ e.l → WR x) (A : Option Addr) (c least : Nat) (w : World) (M : Heap) (hx : ExV M e A c) (hM : Mem w M) (hl : least ≤ lvl e.op) (h9 : least ≤ 9) :
    Calls Tryz.prog 17 #[.agg #[.int .i64 e.op, .string (bs e.s), .slice A e.l.length c], .int .i64 (least : Nat)] w fun en w' => en = .returned (.string (bs e.txt)) ∧ Kp [] w w' := by
  have hlen := txt_len he
  have hkid : ∀ x, x ∈ e.l → x.txt.length ≤ 100000 := fun x hx => by
    cases he with
    | mk op s l h hok =>
      have h1 := txt_len (hok x hx)
      have h2 := size_mem hx
      have h3 := E.size_eq (.mk op s l)
      simp only [E.l] at h2 h3
      omega
  cases he with
  | mk op s l h hok =>
    rcases h with ⟨rfl, h1, h2, h3, h4⟩ | ⟨h1, h2, rfl⟩ | ⟨h1, h2, rfl⟩ | ⟨h1, h2, rfl⟩ | ⟨rfl, h2, rfl⟩ | ⟨h1, h2, rfl⟩
    · obtain rfl : l = [] := List.length_eq_zero_iff.1 h1
      exact wr_leaf (.inl ⟨rfl, h2⟩) (by omega) A c least w M hM hl
    · obtain rfl : l = [] := List.length_eq_zero_iff.1 h2
      exact wr_leaf (.inr h1) (Nat.zero_le _) A c least w M hM h9
    · match l, h2, ht, hx, hkid with
      | [a], _, ht, hx, hkid =>
        have ha := ht a (by simp [E.l])
        have hz := hkid a (by simp [E.l])
        rcases h1 with rfl | rfl | rfl | rfl | rfl
        · exact wr_one8 ha hz A c least w M hx hM hl
        · exact wr_one9 ha hz A c least w M hx hM hl
        · exact wr_one10 ha hz A c least w M hx hM hl
        · exact wr_one11 ha hz A c least w M hx hM hl
        · exact wr_one12 ha hz A c least w M hx hM hl
    · have hll : l.length ≤ 1000 := by omega
      rcases h1 with rfl | rfl | rfl
      · exact wr_many7 h2 hll ht (by omega) A c least w M hx hM hl
      · exact wr_many13 h2 hll ht (by omega) A c least w M hx hM hl
      · exact wr_many15 h2 hll ht (by omega) A c least w M hx hM hl
    · match l, h2, ht, hx, hkid with
      | [a, b, d], _, ht, hx, hkid =>
        have h0 : least = 0 := by have : lvl (E.mk 14 [] [a, b, d]).op = 0 := rfl; omega
        subst h0
        exact wr_only (ht a (by simp [E.l])) (ht b (by simp [E.l])) (ht d (by simp [E.l])) (hkid a (by simp [E.l])) (hkid b (by simp [E.l])) (hkid d (by simp [E.l])) A c w M hx hM
    · have hll : l.length ≤ 1000 := by
        have h3 := E.size_eq (.mk op [] l)
        have h4 := length_sizes l
        simp only [E.l] at h3
        omega
      rcases h1 with rfl | rfl | rfl
      · exact wr_many4 h2 hll ht (by omega) A c least w M hx hM hl
      · exact wr_many5 h2 hll ht (by omega) A c least w M hx hM hl
      · exact wr_many6 h2 hll ht (by omega) A c least w M hx hM hl
set_option maxRecDepth 100000 in
set_option maxHeartbeats 4000000 in
/-- In brackets. -/
theorem wr_br {e : E} (he : Okay e) (hn : e.size ≤ 100) (ht : ∀ x, x ∈ e.l → WR x) (A : Option Addr) (c least : Nat) (w : World) (M : Heap) (hx : ExV M e A c) (hM : Mem w M) (hl9 : least ≤ 9) (hl : lvl e.op < least) :
    Calls Tryz.prog 17 #[.agg #[.int .i64 e.op, .string (bs e.s), .slice A e.l.length c], .int .i64 (least : Nat)] w fun en w' => en = .returned (.string (bs (91 :: (e.txt ++ [93])))) ∧ Kp [] w w' := by
  have HT : Hid (∀ w', Mem w' M → Calls Tryz.prog 17 #[.agg #[.int .i64 e.op, .string (bs e.s), .slice A e.l.length c], .int .i64 0] w' fun en w'' => en = .returned (.string (bs e.txt)) ∧ Kp [] w' w'') := Hid.mk (fun w' hM' => wr_at he hn ht A c 0 w' M hx hM' (Nat.zero_le _) (Nat.zero_le _))
  have HB := Hid.mk (box_later hM (.int .i64 e.op) (.string (bs e.s)) (.slice A e.l.length c))
  have HL := Hid.mk (rank_calls e.op e.s A e.l.length c)
  have HS : Hid (bs [91] ++ bs e.txt ++ bs [93] = bs (91 :: (e.txt ++ [93]))) := Hid.mk (by rw [bs_cat, bs_cat]; rfl)
  have hlen := txt_len he
  have htl : e.txt.length ≤ 100000 := by omega
  have hsz := bs_size e.txt
  generalize e.txt = t at *
  have hlt : (lvl e.op : Int) < (least : Int) := by omega
  generalize lvl e.op = lv at *
  clear he ht hx hM hlen
  go_enter Tryz.func17, Tryz.ntmps17
  go_wp2_with fail
  refine (HL.out _).mono ?_
  rintro en w2 ⟨rfl, hk2⟩
  obtain ⟨hM2, ⟨z0, z1, z2⟩, hK2⟩ := HB.out _ hk2
  have HK := Hid.mk (And.intro hM2 hK2)
  clear hM2 hK2 hk2
  go_wp2_with fail
  refine (HT.out _ HK.out.1).mono ?_
  rintro en w3 ⟨rfl, hk3⟩
  have HZ := Hid.mk (HK.out.2.trans hk3)
  clear hk3
  go_wp2_with fail
  go_ret
  exact ⟨by rw [← HS.out]; rfl, HZ.out⟩
theorem wr_all (n : Nat) : ∀ e : E, e.size ≤ n → n ≤ 100 → Okay e → WR e := by
  induction n with
  | zero => intro e he; have := size_pos e; omega
  | succ n ih =>
    intro e he hn hok A c least w M hx hM hl
    have ht : ∀ x, x ∈ e.l → WR x := fun x hxm => by
      have h1 := size_mem hxm
      have h2 := E.size_eq e
      cases hok with
      | mk op s l h hl => exact ih x (by omega) (by omega) (hl x hxm)
    by_cases hlv : lvl e.op < least
    · rw [wt_lt hlv]
      exact wr_br hok (by omega) ht A c least w M hx hM hl hlv
    · rw [wt_ge (by omega)]
      exact wr_at hok (by omega) ht A c least w M hx hM (by omega) hl
end Go.Proofs.YtgdnhlckodhhgaaGreat

/-
  The reference's Text, for all expressions.
-/
namespace Go.Proofs.YtgdnhlckodhhgaaGreat
open Go.RowKit
set_option linter.unusedVariables false
set_option linter.unusedSimpArgs false
set_option maxRecDepth 100000 in
set_option maxHeartbeats 4000000 in
theorem rText_ok {e : E} (hv : verdict e = 0) (A : Option Addr) (c : Nat) (w : World) (M : Heap) (hx : ExV M e A c) (hM : Mem w M) :
    Calls Tryz.prog 7 #[.agg #[.int .i64 e.op, .string (bs e.s), .slice A e.l.length c]] w fun en w' => en = .returned (.tuple #[.string (bs e.txt), .int .i64 0]) ∧ Kp [] w w' := by
  obtain ⟨h1, h2, h3⟩ := verdict_zero hv
  have hok := okay_of e h3
  have hshort := txt_short hv
  have hwide : e.wide ≤ 16 := okay_wide hok
  have H0 : Hid (∀ w', Kp [] (w.alloc (.cells #[.int .i64 e.op, .string (bs e.s), .slice A e.l.length c] 24)) w' → Mem w' M ∧ (w'.cell? ⟨w.heap.size, 0, none⟩ = some (.int .i64 e.op) ∧ w'.cell? ⟨w.heap.size, 1, none⟩ = some (.string (bs e.s)) ∧ w'.cell? ⟨w.heap.size, 2, none⟩ = some (.slice A e.l.length c)) ∧ Kp [] w w') := Hid.mk (fun w' hk => by
    have hm := (hM.alloc (.cells #[.int .i64 e.op, .string (bs e.s), .slice A e.l.length c] 24)).kp hk (by simp)
    have hx := (Box.new hM #[.int .i64 e.op, .string (bs e.s), .slice A e.l.length c] 24).same hk (by simp)
    exact ⟨hm, hx.three.1, ((Kp.refl _ _).alloc _).trans hk⟩)
  have HV := Hid.mk (fun w' hM' => rValidate_calls e A c w' M hx hM' (by omega) (by omega))
  rw [hv] at HV
  have HT : Hid (∀ w', Mem w' M → Calls Tryz.prog 17 #[.agg #[.int .i64 e.op, .string (bs e.s), .slice A e.l.length c], .int .i64 0] w' fun en w' => en = .returned (.string (bs e.txt)) ∧ _) := Hid.mk (fun w' hM' => by
    have := wr_all 100 e (by omega) (Nat.le_refl _) hok A c 0 w' M hx hM' (by omega)
    rw [wt_ge (Nat.zero_le _)] at this
    exact this)
  have hsz := bs_size e.txt
  generalize e.txt = t at *
  have hle : ¬ (6000 : Int) < (t.length : Int) := by omega
  clear hv h1 h2 h3 hok hwide hx hM
  go_enter Tryz.func7, Tryz.ntmps7
  go_wp2_with fail
  refine (HV.out _ (H0.out _ (Kp.refl _ _)).1).mono ?_
  rintro en w2 ⟨rfl, hk2⟩
  obtain ⟨hM2, ⟨z0, z1, z2⟩, hK2⟩ := H0.out _ hk2
  have HZ := Hid.mk (And.intro hM2 hK2)
  clear hk2 hM2 hK2
  go_wp2_with fail
  refine (HT.out _ HZ.out.1).mono ?_
  rintro en w3 ⟨rfl, hk3⟩
  have HZ3 := Hid.mk (HZ.out.2.trans hk3)
  clear hk3
  go_wp2_with fail
  go_ret2
  exact ⟨rfl, HZ3.out⟩
set_option maxRecDepth 100000 in
set_option maxHeartbeats 4000000 in
theorem rText_no {e : E} (hv : verdict e ≠ 0) (hm : e.mass ≤ 1099511627776) (A : Option Addr) (c : Nat) (w : World) (M : Heap) (hx : ExV M e A c) (hM : Mem w M) :
    Calls Tryz.prog 7 #[.agg #[.int .i64 e.op, .string (bs e.s), .slice A e.l.length c]] w fun en w' => en = .returned (.tuple #[.string ⟨#[]⟩, .int .i64 (verdict e)]) ∧ Kp [] w w' := by
  have hsa := size_mass e
  have hwa := wide_mass e
  have HV := Hid.mk (fun w' hM' => rValidate_calls e A c w' M hx hM' (by omega) (by omega))
  have HK := Hid.mk (And.intro (hM.alloc (.cells #[.int .i64 e.op, .string (bs e.s), .slice A e.l.length c] 24)) ((Kp.refl [] w).alloc (.cells #[.int .i64 e.op, .string (bs e.s), .slice A e.l.length c] 24)))
  have hv2 : (verdict e != 0) = true := by simpa using hv
  generalize verdict e = k at *
  clear hv hx hM hsa hwa hm
  go_enter Tryz.func7, Tryz.ntmps7
  go_wp2_with fail
  refine (HV.out _ HK.out.1).mono ?_
  rintro en w2 ⟨rfl, hk2⟩
  have HZ := Hid.mk (HK.out.2.trans hk2)
  clear hk2
  go_wp2_with fail
  go_ret2
  exact ⟨rfl, HZ.out⟩
end Go.Proofs.YtgdnhlckodhhgaaGreat
