/-
  The reference's IsLong: whether lists have far too many texts, or bytes.
-/
import Derived.Test.YtgdnhlckodhhgaaGreatDoorJC
import Derived.Test.YtgdnhlckodhhgaaGreatDoorJVP
import Derived.Test.YtgdnhlckodhhgaaGreatDoorJS2
import Derived.Test.YtgdnhlckodhhgaaGreatDoorJL
namespace Go.Proofs.YtgdnhlckodhhgaaGreatDoor
open Go.RowKit
set_option linter.unusedVariables false
set_option linter.unusedSimpArgs false
def wt (l : List Bs) : Nat := (l.map fun x => 1 + x.length).sum
def wts (L : List (List Bs)) : Nat := (L.map wt).sum
theorem wt_take {l : List Bs} {k : Nat} (h : k < l.length) : wt (l.take (k + 1)) = wt (l.take k) + (1 + l[k].length) := by
  unfold wt
  rw [List.take_succ_eq_append_getElem h, List.map_append, List.sum_append]; simp
theorem wts_take {L : List (List Bs)} {k : Nat} (h : k < L.length) : wts (L.take (k + 1)) = wts (L.take k) + wt L[k] := by
  unfold wts
  rw [List.take_succ_eq_append_getElem h, List.map_append, List.sum_append]; simp
theorem wt_le (l : List Bs) : ∀ k, wt (l.take k) ≤ wt l := by
  induction l with
  | nil => intro k; simp
  | cons a l ih =>
    intro k
    cases k with
    | zero => simp [wt]
    | succ k => have := ih k; simp [wt] at this ⊢; omega
theorem wts_le (l : List (List Bs)) : ∀ k, wts (l.take k) ≤ wts l := by
  induction l with
  | nil => intro k; simp
  | cons a l ih =>
    intro k
    cases k with
    | zero => simp [wts]
    | succ k => have := ih k; simp [wts] at this ⊢; omega
set_option maxRecDepth 100000 in
set_option maxHeartbeats 2000000 in
theorem rIsLong_calls {M : Heap} {L : List (List Bs)} {g cg : Nat} {As : Nat → Option Addr} {cs : Nat → Nat} (hrow : ∀ i, (h : i < L.length) → WsM M (As i) L[i]) (w : World) (hcell : ∀ i, (h : i < L.length) → w.cell? ⟨g, i, none⟩ = some (.slice (As i) L[i].length (cs i))) (htot : wts L ≤ 1099511627776) (hlen : L.length ≤ 1000) (hM : Mem w M) :
    Calls Tryz.prog 8 #[.slice (some ⟨g, 0, none⟩) L.length cg] w fun e w' => e = .returned (.bool (decide (16384 < wts L))) ∧ w = w' := by
  have HR := Hid.mk hrow
  have HC := Hid.mk hcell
  have HM := Hid.mk hM
  clear hrow hcell hM
  go_enter Tryz.func8, Tryz.ntmps8
  go_wp2_with fail
  go_loopg [3, 4] (L.length) (fun kk v3 v4 wr => ∃ i n : Nat, i ≤ L.length ∧ kk = L.length - i ∧ v3 = .int .i64 (n : Nat) ∧ v4 = .int .i64 (i : Nat) ∧ n ≤ wts L ∧ Hid (n = wts (L.take i) ∨ 16384 < n) ∧ wr = w)
  case atStart => exact ⟨0, 0, Nat.zero_le _, by simp, rfl, rfl, Nat.zero_le _, Hid.mk (.inl rfl), rfl⟩
  case round =>
    obtain ⟨i, n, hi, hkk, rfl, rfl, hn, HN, rfl⟩ := hrel
    by_cases hlt : i < L.length
    · by_cases hsm : n ≤ 16384
      · have HNE : Hid (n = wts (L.take i)) := Hid.mk (by rcases HN.out with h | h; exact h; omega)
        have hq := HC.out i hlt
        have hlt' : (i : Int) < (L.length : Int) := by omega
        have hsm' : (n : Int) ≤ 16384 := by omega
        have HT := Hid.mk (wts_take hlt)
        have HLE := Hid.mk (wts_le L (i + 1))
        have hll : L[i].length ≤ wt L[i] := by
          have : ∀ l : List Bs, l.length ≤ wt l := by
            intro l
            induction l with
            | nil => simp [wt]
            | cons a l ih => simp [wt] at ih ⊢; omega
          exact this _
        have hwl : wt L[i] ≤ wts L := by have := HLE.out; rw [HT.out] at this; omega
        go_wp2_with fail
        go_loopg [3, 5] (L[i].length) (fun kk v3 v5 wy => ∃ k m : Nat, k ≤ L[i].length ∧ kk = L[i].length - k ∧ v3 = .int .i64 (m : Nat) ∧ v5 = .int .i64 (k : Nat) ∧ m ≤ wts L ∧ Hid (m = n + wt (L[i].take k)) ∧ wy = wr)
        case atStart => exact ⟨0, n, Nat.zero_le _, by simp, rfl, rfl, hn, Hid.mk (by simp [wt]), rfl⟩
        case round =>
          obtain ⟨k, m, hk, hkk2, rfl, rfl, hm, HMK, rfl⟩ := hrel
          by_cases hkl : k < L[i].length
          · by_cases hms : m ≤ 16384
            · obtain ⟨b, o, hA, hcell⟩ := (HR.out i hlt).place (by omega)
              have hqk := HM.out.cell (hcell k hkl)
              rw [hA] at hq
              have hkl' : (k : Int) < (L[i].length : Int) := by omega
              have hms' : (m : Int) ≤ 16384 := by omega
              have hzz := bs_size L[i][k]
              have HWK := Hid.mk (wt_take hkl)
              have HWL := Hid.mk (wt_le L[i] (k + 1))
              have hb1 : L[i][k].length ≤ wt L[i] := by have h1 := HWK.out; have h2 := HWL.out; omega
              have hb2 : m + (1 + L[i][k].length) ≤ wts L := by
                have h1 := HWK.out; have h2 := HWL.out; have h3 := HMK.out; have h4 := HNE.out; have h5 := HT.out; have h6 := HLE.out
                omega
              clear hcell hA
              go_wp2_with fail
              go_roundg (L[i].length - (k + 1))
              case measure => omega
              case rel => exact ⟨k + 1, m + (1 + L[i][k].length), by omega, rfl, by go_num, by go_num, hb2, Hid.mk (by have h1 := HWK.out; have h3 := HMK.out; omega), rfl⟩
            · have hms' : ¬ (m : Int) ≤ 16384 := by omega
              have hkl' : (k : Int) < (L[i].length : Int) := by omega
              go_wp2_with fail
              go_roundg (L.length - (i + 1))
              case measure => omega
              case rel => exact ⟨i + 1, m, by omega, rfl, rfl, by go_num, hm, Hid.mk (.inr (by omega)), rfl⟩
          · obtain rfl : k = L[i].length := by omega
            have hnl : ¬ ((L[i].length : Int) < (L[i].length : Int)) := by omega
            have HE : Hid (m = wts (L.take (i + 1))) := Hid.mk (by have h1 := HMK.out; rw [List.take_length] at h1; rw [HT.out, ← HNE.out]; exact h1)
            go_wp2_with fail
            go_roundg (L.length - (i + 1))
            case measure => omega
            case rel => exact ⟨i + 1, m, by omega, rfl, rfl, by go_num, hm, Hid.mk (.inl HE.out), rfl⟩
      · have hsm' : ¬ (n : Int) ≤ 16384 := by omega
        have hlt' : (i : Int) < (L.length : Int) := by omega
        have HF : Hid (decide (16384 < wts L) = true) := Hid.mk (by simp; omega)
        have hgt : (16384 : Int) < (n : Int) := by omega
        go_wp2_with fail
        go_ret
        exact ⟨ret_bool HF.out.symm, rfl⟩
    · obtain rfl : i = L.length := by omega
      have hnl : ¬ ((L.length : Int) < (L.length : Int)) := by omega
      have HF : Hid (decide ((16384 : Int) < (n : Int)) = decide (16384 < wts L)) := Hid.mk (by
        rw [Bool.eq_iff_iff]; simp
        rcases HN.out with h | h
        · rw [List.take_length] at h; omega
        · omega)
      go_wp2_with fail
      go_ret
      exact ⟨ret_bool HF.out, rfl⟩
end Go.Proofs.YtgdnhlckodhhgaaGreatDoor

/-
  The law ExprHolds: it returns true.
-/
namespace Go.Proofs.YtgdnhlckodhhgaaGreatDoor
open Go.RowKit
set_option linter.unusedVariables false
set_option linter.unusedSimpArgs false
theorem box_kept {M : Heap} {w : World} (hM : Mem w M) (x y z : Value) : ∀ w', Kp [] (w.alloc (.cells #[x, y, z] 24)) w' → Mem w' M ∧ (w'.cell? ⟨w.heap.size, 0, none⟩ = some x ∧ w'.cell? ⟨w.heap.size, 1, none⟩ = some y ∧ w'.cell? ⟨w.heap.size, 2, none⟩ = some z) ∧ Kp [] w w' := fun w' hk =>
  ⟨(hM.alloc _).kp hk (by simp), ((Box.new hM #[x, y, z] 24).same hk (by simp)).three.1, ((Kp.refl [] w).alloc _).trans hk⟩
theorem two_lists {M : Heap} {ss ws : List Bs} {A B : Option Addr} {c d g cg : Nat} (hs : WsM M A ss) (hw : WsM M B ws) (ht : wt ss + wt ws ≤ 1099511627776) (w : World) (hM : Mem w M) (h0 : w.cell? ⟨g, 0, none⟩ = some (.slice A ss.length c)) (h1 : w.cell? ⟨g, 1, none⟩ = some (.slice B ws.length d)) :
    Calls Tryz.prog 8 #[.slice (some ⟨g, 0, none⟩) 2 cg] w fun e w' => e = .returned (.bool (decide (16384 < wts [ss, ws]))) ∧ w = w' := by
  refine rIsLong_calls (L := [ss, ws]) (As := fun i => if i = 0 then A else B) (cs := fun i => if i = 0 then c else d) (fun i hi => ?_) w (fun i hi => ?_) (by simp [wts]; omega) (by simp) hM
  · match i, hi with
    | 0, _ => exact hs
    | 1, _ => exact hw
    | i + 2, hi => simp at hi; omega
  · match i, hi with
    | 0, _ => exact h0
    | 1, _ => exact h1
    | i + 2, hi => simp at hi; omega
set_option maxRecDepth 100000 in
set_option maxHeartbeats 8000000 in
theorem ExprHolds_calls {a : E} {A As Aw : Option Addr} {c cs cw : Nat} {M : Heap} {ss ws : List Bs} (ha : ExV M a A c) (hna : a.mass ≤ 1099511627776) (hss : WsM M As ss) (hcs : ss.length ≤ cs) (hws : WvM M Aw ws) (hcw : ws.length ≤ cw) (ht : wt ss + wt ws ≤ 1099511627776) (w : World) (hM : Mem w M) :
    Calls Tryz.prog 3 #[.agg #[.int .i64 a.op, .string (bs a.s), .slice A a.l.length c], .slice As ss.length cs, .slice Aw ws.length cw] w fun e w' => e = .returned (.bool true) ∧ Kp [] w w' := by
  have hlw : ∀ l : List Bs, l.length ≤ wt l ∧ ∀ x ∈ l, x.length ≤ wt l := by
    intro l
    induction l with
    | nil => simp [wt]
    | cons b l ih =>
      obtain ⟨h1, h2⟩ := ih
      refine ⟨by simp [wt] at h1 ⊢; omega, fun x hx => ?_⟩
      rcases List.mem_cons.1 hx with rfl | hx
      · simp [wt]; omega
      · have := h2 x hx; simp [wt] at this ⊢; omega
  have hs1 := hlw ss
  have hw1 := hlw ws
  have hsm := size_mass a
  have hwm := wide_mass a
  have HKn := Hid.mk known_calls
  have HB := Hid.mk (box_kept hM (.int .i64 a.op) (.string (bs a.s)) (.slice A a.l.length c))
  have HO := Hid.mk (fun w' (hM' : Mem w' M) => over_calls ha hna w' hM')
  have HL := Hid.mk (fun g cg w' (hM' : Mem w' M) => two_lists (c := cs) (d := cw) (g := g) (cg := cg) hss hws.ws ht w' hM')
  have HE := Hid.mk (fun w' (hM' : Mem w' M) => eHolds_all ha (by omega) (by omega) hss hcs (by omega) (fun s hs => by have := hs1.2 s hs; omega) hws.ws hcw (by omega) (fun s hs => by have := hw1.2 s hs; omega) w' hM')
  have HR := Hid.mk (fun w' (hM' : Mem w' M) => rHolds_calls ha (by omega) (by omega) hss hcs (by omega) (fun s hs => by have := hs1.2 s hs; omega) hws hcw (by omega) (fun s hs => by have := hw1.2 s hs; omega) w' hM')
  generalize holdsR a ss ws = r at *
  obtain ⟨r1, r2⟩ := r
  unfold HEnd at HE HR
  dsimp only at HE HR
  clear ha hM hss hcs hws hcw ht hlw hs1 hw1 hsm hwm hna
  cases hoa : overP a with
  | true =>
    rw [hoa] at HO
    clear hoa
    go_enter Tryz.func3, Tryz.ntmps3
    go_wp2_with fail
    refine (HO.out _ (HB.out _ (Kp.refl _ _)).1).mono ?_
    rintro en w2 ⟨rfl, hk2⟩
    have HZ := Hid.mk (HB.out _ hk2).2.2
    clear hk2
    go_wp2_with fail
    refine (HKn.out w2).mono ?_
    rintro en w3 ⟨rfl, hk3⟩
    have HZ3 := Hid.mk (HZ.out.trans hk3)
    clear hk3
    go_wp2_with fail
    go_ret
    exact ⟨rfl, HZ3.out⟩
  | false =>
    rw [hoa] at HO
    clear hoa
    cases hlong : decide (16384 < wts [ss, ws]) with
    | true =>
      rw [hlong] at HL
      clear hlong
      go_enter Tryz.func3, Tryz.ntmps3
      go_wp2_with fail
      refine (HO.out _ (HB.out _ (Kp.refl _ _)).1).mono ?_
      rintro en w2 ⟨rfl, hk2⟩
      obtain ⟨hM2, ⟨p0, p1, p2⟩, hK2⟩ := HB.out _ hk2
      have hbx := Box.new hM2 #[.slice As ss.length cs, .slice Aw ws.length cw] 25
      have HL2 := Hid.mk (HL.out w2.heap.size 2 _ (hM2.alloc _) (hbx.cell 0) (hbx.cell 1))
      have HZ2 := Hid.mk (hK2.alloc (.cells #[.slice As ss.length cs, .slice Aw ws.length cw] 25))
      clear hk2 hM2 hK2 hbx
      go_wp2_with fail
      (with_reducible refine HL2.out.mono ?_)
      rintro en w3 ⟨rfl, rfl⟩
      go_wp2_with fail
      refine (HKn.out _).mono ?_
      rintro en w4 ⟨rfl, hk4⟩
      have HZ4 := Hid.mk (HZ2.out.trans hk4)
      clear hk4
      go_wp2_with fail
      go_ret
      exact ⟨rfl, HZ4.out⟩
    | false =>
      rw [hlong] at HL
      clear hlong
      go_enter Tryz.func3, Tryz.ntmps3
      go_wp2_with fail
      refine (HO.out _ (HB.out _ (Kp.refl _ _)).1).mono ?_
      rintro en w2 ⟨rfl, hk2⟩
      obtain ⟨hM2, ⟨p0, p1, p2⟩, hK2⟩ := HB.out _ hk2
      have hbx := Box.new hM2 #[.slice As ss.length cs, .slice Aw ws.length cw] 25
      have HL2 := Hid.mk (HL.out w2.heap.size 2 _ (hM2.alloc _) (hbx.cell 0) (hbx.cell 1))
      have hk3 := hk2.alloc (.cells #[.slice As ss.length cs, .slice Aw ws.length cw] 25)
      obtain ⟨hM3, ⟨s0, s1, s2⟩, hK3⟩ := HB.out _ hk3
      have HE3 := Hid.mk (HE.out _ hM3)
      have HK3 := Hid.mk hk3
      clear hk2 hM2 hK2 hbx hk3 hM3 hK3
      go_wp2_with fail
      (with_reducible refine HL2.out.mono ?_)
      rintro en w3 ⟨rfl, rfl⟩
      go_wp2_with fail
      refine HE3.out.mono ?_
      rintro en w4 ⟨rfl, hk4⟩
      obtain ⟨hM4, ⟨t0, t1, t2⟩, hK4⟩ := HB.out _ (HK3.out.trans hk4)
      have HR4 := Hid.mk (HR.out _ hM4)
      have HK4 := Hid.mk hK4
      clear hk4 hM4 hK4 p0 p1 p2 s0 s1 s2
      go_wp2_with fail
      refine HR4.out.mono ?_
      rintro en w5 ⟨rfl, hk5⟩
      have HK5 := Hid.mk (HK4.out.trans hk5)
      clear hk5 t0 t1 t2
      go_wp2_with fail
      refine (HKn.out _).mono ?_
      rintro en w6 ⟨rfl, hk6⟩
      have HK6 := Hid.mk (HK5.out.trans hk6)
      clear hk6
      go_wp2_with fail
      go_ret
      exact ⟨rfl, HK6.out⟩
end Go.Proofs.YtgdnhlckodhhgaaGreatDoor
