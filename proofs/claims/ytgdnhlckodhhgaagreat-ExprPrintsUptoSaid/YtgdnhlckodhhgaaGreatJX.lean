/-
  Plain: the text of a right expression is short, and reads as it.
-/
import Derived.Test.YtgdnhlckodhhgaaGreatJU
import Derived.Test.YtgdnhlckodhhgaaGreatJE
import Derived.Test.YtgdnhlckodhhgaaGreatJV
import Derived.Test.YtgdnhlckodhhgaaGreatJT6c
import Derived.Test.YtgdnhlckodhhgaaGreatJT6b
import Derived.Test.YtgdnhlckodhhgaaGreatJC
import Derived.Test.YtgdnhlckodhhgaaGreatJS2
namespace Go.Proofs.YtgdnhlckodhhgaaGreat
set_option linter.unusedVariables false
set_option linter.unusedSimpArgs false
theorem verdict_zero {e : E} (h : verdict e = 0) : e.size ≤ 40 ∧ e.nest ≤ 12 ∧ e.right = true := by
  rw [verdict] at h
  split at h
  · cases h
  · split at h
    · exact ⟨by omega, by omega, by assumption⟩
    · cases h
theorem txt_short {e : E} (h : verdict e = 0) : e.txt.length ≤ 995 := by
  obtain ⟨h1, h2, h3⟩ := verdict_zero h
  have := txt_len (okay_of e h3)
  omega
theorem okay_wide {e : E} (h : Okay e) : e.wide ≤ 16 := by
  induction h with
  | mk op s l h hl ih =>
    have hs : s.length ≤ 16 := by
      rcases h with ⟨_, _, _, h, _⟩ | ⟨_, _, rfl⟩ | ⟨_, _, rfl⟩ | ⟨_, _, rfl⟩ | ⟨_, _, rfl⟩ | ⟨_, _, rfl⟩
      · exact h
      all_goals simp
    have hk : wides l ≤ 16 := by
      clear h hl
      induction l with
      | nil => simp [wides]
      | cons a l ihl =>
        have h1 := ih a (by simp)
        have h2 := ihl (fun x hx => ih x (by simp [hx]))
        simp only [wides]
        omega
    simp only [E.wide]
    omega
theorem reads_txt {e : E} (h : verdict e = 0) : Reads e.txt (e, 0, 0) := by
  obtain ⟨k, hk⟩ := round_trip (okay_of e (verdict_zero h).2.2)
  refine .inr ⟨by have := txt_short h; omega, k, _, hk, ?_⟩
  simp [outc, sk, tk, h]
theorem reads_ok {s : Bs} {o : E × Int × Int} (h : Reads s o) (h0 : o.2.2 = 0) : verdict o.1 = 0 := by
  rcases h with ⟨_, rfl⟩ | ⟨_, k, x, _, rfl⟩
  · cases h0
  · unfold outc at h0 ⊢
    split
    · cases h0
    · split
      · simp_all
      · split
        · split
          · assumption
          · simp_all
        · simp_all
end Go.Proofs.YtgdnhlckodhhgaaGreat

/-
  The text of an expression, by the program: all nodes.
-/
namespace Go.Proofs.YtgdnhlckodhhgaaGreat
open Go.RowKit
set_option linter.unusedVariables false
set_option linter.unusedSimpArgs false
set_option maxRecDepth 100000 in
set_option maxHeartbeats 4000000 in
theorem text_leaf {op : Int} {s : Bs} (h : op = 0 ∧ s ≠ [] ∨ op = 1 ∨ op = 2 ∨ op = 3) (hs : s.length ≤ 100000) (A : Option Addr) (c least : Nat) (w : World) (hl : least ≤ 9) :
    Calls Tryz.prog 15 #[.agg #[.int .i64 op, .string (bs s), .slice A 0 c], .int .i64 (least : Nat)] w fun en w' => en = .returned (.string (bs (E.mk op s []).txt)) ∧ Kp [] w w' := by
  have HG := Hid.mk (sign_calls op s A 0 c h (by omega) (w.alloc (.cells #[.int .i64 op, .string (bs s), .slice A 0 c] 24)))
  have HK := Hid.mk ((Kp.refl [] w).alloc (.cells #[.int .i64 op, .string (bs s), .slice A 0 c] 24))
  have HL : Hid (∀ w, Calls Tryz.prog 38 #[.int .i64 op] w fun e w' => e = .returned (.int .i64 9) ∧ w = w') := Hid.mk (fun w => by rcases h with ⟨rfl, _⟩ | rfl | rfl | rfl <;> exact level_calls _ w)
  have HS : Hid (bs (signT op s) = bs (E.mk op s []).txt) := Hid.mk (by rcases h with ⟨rfl, _⟩ | rfl | rfl | rfl <;> rfl)
  have hlt : ¬ (9 : Int) < (least : Int) := by omega
  replace h : op = 0 ∨ op = 1 ∨ op = 2 ∨ op = 3 := by omega
  rcases h with rfl | rfl | rfl | rfl
  all_goals
    go_enter Tryz.func15, Tryz.ntmps15
    go_wp2_with fail
    refine (HL.out _).mono ?_
    rintro en w2 ⟨rfl, rfl⟩
    go_wp2_with fail
    refine HG.out.mono ?_
    rintro en w3 ⟨rfl, hk3⟩
    have HZ := Hid.mk (HK.out.trans hk3)
    clear hk3
    go_wp2_with fail
    go_ret
    exact ⟨by rw [← HS.out]; rfl, HZ.out⟩
/-- Where no brackets are wanted. -/
theorem text_at {e : E} (he : Okay e) (hn : e.size ≤ 100) (ht : ∀ x, x ∈ e.l → TX x) (A : Option Addr) (c least : Nat) (w : World) (M : Heap) (hx : ExV M e A c) (hM : Mem w M) (hl : least ≤ lvl e.op) :
    Calls Tryz.prog 15 #[.agg #[.int .i64 e.op, .string (bs e.s), .slice A e.l.length c], .int .i64 (least : Nat)] w fun en w' => en = .returned (.string (bs e.txt)) ∧ Kp [] w w' := by
  have hlen := txt_len he
  have hkid : ∀ x, x ∈ e.l → x.txt.length ≤ 100000 := fun x hx => by
    cases he with
    | mk op s l h hok =>
      have h1 := txt_len (hok x hx)
      have h2 := size_mem hx
      have h3 := E.size_eq (.mk op s l)
      simp only [E.l] at h2 h3
      omega
  cases he with
  | mk op s l h hok =>
    rcases h with ⟨rfl, h1, h2, h3, h4⟩ | ⟨h1, h2, rfl⟩ | ⟨h1, h2, rfl⟩ | ⟨h1, h2, rfl⟩ | ⟨rfl, h2, rfl⟩ | ⟨h1, h2, rfl⟩
    · obtain rfl : l = [] := List.length_eq_zero_iff.1 h1
      exact text_leaf (.inl ⟨rfl, h2⟩) (by omega) A c least w hl
    · obtain rfl : l = [] := List.length_eq_zero_iff.1 h2
      refine text_leaf (.inr h1) (Nat.zero_le _) A c least w ?_
      rcases h1 with rfl | rfl | rfl <;> exact hl
    · match l, h2, ht, hx, hkid with
      | [a], _, ht, hx, hkid =>
        have ha := ht a (by simp [E.l])
        have hz := hkid a (by simp [E.l])
        rcases h1 with rfl | rfl | rfl | rfl | rfl
        · exact text_mark8 ha hz A c least w M hx hM hl
        · exact text_mark9 ha hz A c least w M hx hM hl
        · exact text_mark10 ha hz A c least w M hx hM hl
        · exact text_not (.inl ⟨rfl, rfl⟩) ha hz A c least w M hx hM hl
        · exact text_not (.inr ⟨rfl, rfl⟩) ha hz A c least w M hx hM hl
    · match l, h2, ht, hx, hkid with
      | [a, b], _, ht, hx, hkid =>
        have ha := ht a (by simp [E.l])
        have hb := ht b (by simp [E.l])
        have hz := hkid a (by simp [E.l])
        have hzb := hkid b (by simp [E.l])
        rcases h1 with rfl | rfl | rfl
        · exact text_two7 ha hb hz hzb A c least w M hx hM hl
        · exact text_two13 ha hb hz hzb A c least w M hx hM hl
        · exact text_two15 ha hb hz hzb A c least w M hx hM hl
    · match l, h2, ht, hx, hkid with
      | [a, b, d], _, ht, hx, hkid =>
        have h0 : least = 0 := by have : lvl (E.mk 14 [] [a, b, d]).op = 0 := rfl; omega
        subst h0
        exact text_only (ht a (by simp [E.l])) (ht b (by simp [E.l])) (ht d (by simp [E.l])) (hkid a (by simp [E.l])) (hkid b (by simp [E.l])) (hkid d (by simp [E.l])) A c w M hx hM
    · have hll : l.length ≤ 1000 := by
        have h3 := E.size_eq (.mk op [] l)
        have h4 := length_sizes l
        simp only [E.l] at h3
        omega
      rcases h1 with rfl | rfl | rfl
      · exact text_many4 h2 hll ht (by omega) A c least w M hx hM hl
      · exact text_many5 h2 hll ht (by omega) A c least w M hx hM hl
      · exact text_many6 h2 hll ht (by omega) A c least w M hx hM hl
set_option maxRecDepth 100000 in
set_option maxHeartbeats 4000000 in
/-- In brackets. -/
theorem text_br {e : E} (he : Okay e) (hn : e.size ≤ 100) (ht : ∀ x, x ∈ e.l → TX x) (A : Option Addr) (c least : Nat) (w : World) (M : Heap) (hx : ExV M e A c) (hM : Mem w M) (hl9 : least ≤ 9) (hl : lvl e.op < least) :
    Calls Tryz.prog 15 #[.agg #[.int .i64 e.op, .string (bs e.s), .slice A e.l.length c], .int .i64 (least : Nat)] w fun en w' => en = .returned (.string (bs (91 :: (e.txt ++ [93])))) ∧ Kp [] w w' := by
  have HT := Hid.mk (text_at he hn ht A c 0 _ M hx (hM.alloc (.cells #[.int .i64 e.op, .string (bs e.s), .slice A e.l.length c] 24)) (Nat.zero_le _))
  have HK := Hid.mk ((Kp.refl [] w).alloc (.cells #[.int .i64 e.op, .string (bs e.s), .slice A e.l.length c] 24))
  have HL := Hid.mk (level_calls e.op)
  have HS : Hid (bs [91] ++ bs e.txt ++ bs [93] = bs (91 :: (e.txt ++ [93]))) := Hid.mk (by rw [bs_cat, bs_cat]; rfl)
  have hlen := txt_len he
  have htl : e.txt.length ≤ 100000 := by omega
  have hsz := bs_size e.txt
  generalize e.txt = t at *
  have hlt : (lvl e.op : Int) < (least : Int) := by omega
  generalize lvl e.op = lv at *
  clear he ht hx hM hlen
  go_enter Tryz.func15, Tryz.ntmps15
  go_wp2_with fail
  refine (HL.out _).mono ?_
  rintro en w2 ⟨rfl, rfl⟩
  go_wp2_with fail
  refine HT.out.mono ?_
  rintro en w3 ⟨rfl, hk3⟩
  have HZ := Hid.mk (HK.out.trans hk3)
  clear hk3
  go_wp2_with fail
  go_ret
  exact ⟨by rw [← HS.out]; rfl, HZ.out⟩
theorem text_all (n : Nat) : ∀ e : E, e.size ≤ n → n ≤ 100 → Okay e → TX e := by
  induction n with
  | zero => intro e he; have := size_pos e; omega
  | succ n ih =>
    intro e he hn hok A c least w M hx hM hl
    have ht : ∀ x, x ∈ e.l → TX x := fun x hxm => by
      have h1 := size_mem hxm
      have h2 := E.size_eq e
      cases hok with
      | mk op s l h hl => exact ih x (by omega) (by omega) (hl x hxm)
    by_cases hlv : lvl e.op < least
    · rw [wt_lt hlv]
      exact text_br hok (by omega) ht A c least w M hx hM hl hlv
    · rw [wt_ge (by omega)]
      exact text_at hok (by omega) ht A c least w M hx hM (by omega)
end Go.Proofs.YtgdnhlckodhhgaaGreat

/-
  Text, for all expressions.
-/
namespace Go.Proofs.YtgdnhlckodhhgaaGreat
open Go.RowKit
set_option linter.unusedVariables false
set_option linter.unusedSimpArgs false
set_option maxRecDepth 100000 in
set_option maxHeartbeats 4000000 in
theorem Text_ok {e : E} (hv : verdict e = 0) (A : Option Addr) (c : Nat) (w : World) (M : Heap) (hx : ExV M e A c) (hM : Mem w M) :
    Calls Tryz.prog 6 #[.agg #[.int .i64 e.op, .string (bs e.s), .slice A e.l.length c]] w fun en w' => en = .returned (.tuple #[.string (bs e.txt), .int .i64 0]) ∧ Kp [] w w' := by
  obtain ⟨h1, h2, h3⟩ := verdict_zero hv
  have hok := okay_of e h3
  have hshort := txt_short hv
  have hwide : e.wide ≤ 16 := okay_wide hok
  have H0 : Hid (∀ w', Kp [] (w.alloc (.cells #[.int .i64 e.op, .string (bs e.s), .slice A e.l.length c] 24)) w' → Mem w' M ∧ (w'.cell? ⟨w.heap.size, 0, none⟩ = some (.int .i64 e.op) ∧ w'.cell? ⟨w.heap.size, 1, none⟩ = some (.string (bs e.s)) ∧ w'.cell? ⟨w.heap.size, 2, none⟩ = some (.slice A e.l.length c)) ∧ Kp [] w w') := Hid.mk (fun w' hk => by
    have hm := (hM.alloc (.cells #[.int .i64 e.op, .string (bs e.s), .slice A e.l.length c] 24)).kp hk (by simp)
    have hx := (Box.new hM #[.int .i64 e.op, .string (bs e.s), .slice A e.l.length c] 24).same hk (by simp)
    exact ⟨hm, hx.three.1, ((Kp.refl _ _).alloc _).trans hk⟩)
  have HV := Hid.mk (fun w' hM' => Validate_calls e A c w' M hx hM' (by omega) (by omega))
  rw [hv] at HV
  have HT : Hid (∀ w', Mem w' M → Calls Tryz.prog 15 #[.agg #[.int .i64 e.op, .string (bs e.s), .slice A e.l.length c], .int .i64 0] w' fun en w' => en = .returned (.string (bs e.txt)) ∧ _) := Hid.mk (fun w' hM' => by
    have := text_all 100 e (by omega) (Nat.le_refl _) hok A c 0 w' M hx hM' (by omega)
    rw [wt_ge (Nat.zero_le _)] at this
    exact this)
  have hsz := bs_size e.txt
  generalize e.txt = t at *
  have hle : ¬ (6000 : Int) < (t.length : Int) := by omega
  clear hv h1 h2 h3 hok hwide hx hM
  go_enter Tryz.func6, Tryz.ntmps6
  go_wp2_with fail
  refine (HV.out _ (H0.out _ (Kp.refl _ _)).1).mono ?_
  rintro en w2 ⟨rfl, hk2⟩
  obtain ⟨hM2, ⟨z0, z1, z2⟩, hK2⟩ := H0.out _ hk2
  have HZ := Hid.mk (And.intro hM2 hK2)
  clear hk2 hM2 hK2
  go_wp2_with fail
  refine (HT.out _ HZ.out.1).mono ?_
  rintro en w3 ⟨rfl, hk3⟩
  have HZ3 := Hid.mk (HZ.out.2.trans hk3)
  clear hk3
  go_wp2_with fail
  go_ret2
  exact ⟨rfl, HZ3.out⟩
set_option maxRecDepth 100000 in
set_option maxHeartbeats 4000000 in
theorem Text_no {e : E} (hv : verdict e ≠ 0) (hm : e.mass ≤ 1099511627776) (A : Option Addr) (c : Nat) (w : World) (M : Heap) (hx : ExV M e A c) (hM : Mem w M) :
    Calls Tryz.prog 6 #[.agg #[.int .i64 e.op, .string (bs e.s), .slice A e.l.length c]] w fun en w' => en = .returned (.tuple #[.string ⟨#[]⟩, .int .i64 (verdict e)]) ∧ Kp [] w w' := by
  have hsa := size_mass e
  have hwa := wide_mass e
  have HV := Hid.mk (fun w' hM' => Validate_calls e A c w' M hx hM' (by omega) (by omega))
  have HK := Hid.mk (And.intro (hM.alloc (.cells #[.int .i64 e.op, .string (bs e.s), .slice A e.l.length c] 24)) ((Kp.refl [] w).alloc (.cells #[.int .i64 e.op, .string (bs e.s), .slice A e.l.length c] 24)))
  have hv2 : (verdict e != 0) = true := by simpa using hv
  generalize verdict e = k at *
  clear hv hx hM hsa hwa hm
  go_enter Tryz.func6, Tryz.ntmps6
  go_wp2_with fail
  refine (HV.out _ HK.out.1).mono ?_
  rintro en w2 ⟨rfl, hk2⟩
  have HZ := Hid.mk (HK.out.2.trans hk2)
  clear hk2
  go_wp2_with fail
  go_ret2
  exact ⟨rfl, HZ.out⟩
end Go.Proofs.YtgdnhlckodhhgaaGreat
