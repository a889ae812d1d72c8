/-
  Whether two expressions are one, by the program (slices.EqualFunc).
-/
import Derived.Test.YtgdnhlckodhhgaaGreatDoorJG
import Derived.Test.YtgdnhlckodhhgaaGreatDoorJC
namespace Go.Proofs.YtgdnhlckodhhgaaGreatDoor
open Go.RowKit
set_option linter.unusedVariables false
set_option linter.unusedSimpArgs false
noncomputable def eqL (l m : List E) : Bool := @decide (l = m) (Classical.propDecidable _)
theorem eqL_no {l m : List E} (h : l ≠ m) : eqL l m = false := by unfold eqL; simp [h]
theorem eqL_yes {l m : List E} (h : l = m) : eqL l m = true := by unfold eqL; simp [h]
theorem same_parts (a b : E) : same a b = (decide (a.op = b.op) && (decide (a.s = b.s) && eqL a.l b.l)) := by
  have h : eqL a.l b.l = true ↔ a.l = b.l := by unfold eqL; simp
  rw [Bool.eq_iff_iff, same_iff, Bool.and_eq_true, Bool.and_eq_true, decide_eq_true_iff, decide_eq_true_iff, h]
  cases a; cases b
  simp [E.op, E.s, E.l]
set_option maxRecDepth 100000 in
set_option maxHeartbeats 2000000 in
theorem EqualFunc_calls {K : Nat} {a b : E} {A B : Option Addr} {c d : Nat} {M : Heap} (ha : ExV M a A c) (hb : ExV M b B d)
    (hcf : ∀ u v w, (callFunc K #[u, v]).run Tryz.prog w = .ok (.enter K #[u, v]) w)
    (hK : ∀ x y A c B d w, x ∈ a.l → ExV M x A c → ExV M y B d → Mem w M → Calls Tryz.prog K #[.agg #[.int .i64 x.op, .string (bs x.s), .slice A x.l.length c], .agg #[.int .i64 y.op, .string (bs y.s), .slice B y.l.length d]] w fun en w' => en = .returned (.bool (same x y)) ∧ Kp [] w w')
    (w : World) (hM : Mem w M) (hl : a.l.length ≤ 1099511627776) :
    Calls Tryz.prog 86 #[.slice A a.l.length c, .slice B b.l.length d, .func (.func K) #[] #[]] w fun en w' => en = .returned (.bool (eqL a.l b.l)) ∧ Kp [] w w' := by
  have HC := Hid.mk hcf
  clear hcf
  by_cases h3 : a.l.length = b.l.length
  · by_cases h0 : a.l.length = 0
    · have HA := Hid.mk (eqL_yes (l := a.l) (m := b.l) ((List.length_eq_zero_iff.1 h0).trans (List.length_eq_zero_iff.1 (h3.symm.trans h0)).symm))
      rw [← h3, h0]
      clear ha hb hl h0 hK h3
      go_enter Tryz.func86, Tryz.ntmps86
      go_wp2_with fail
      refine wp_loop_rounds 1 ?_
      rw [rounds_succ]
      go_wp2_with fail
      go_ret
      exact ⟨ret_bool HA.out.symm, Kp.refl _ _⟩
    · obtain ⟨ba, oa, rfl⟩ := ha.place (by omega)
      obtain ⟨bb, ob, rfl⟩ := hb.place (by omega)
      have HA := Hid.mk ha
      have HB := Hid.mk hb
      have HK := Hid.mk hK
      have H3 := Hid.mk h3
      rw [← h3]
      clear ha hb hK h3
      go_enter Tryz.func86, Tryz.ntmps86
      go_wp2_with fail
      go_loopg [17] a.l.length (fun k v wr => ∃ j : Nat, j ≤ a.l.length ∧ k = a.l.length - j ∧ v = .int .i64 (j : Nat) ∧ (∀ i (h : i < a.l.length) (h' : i < b.l.length), i < j → a.l[i] = b.l[i]) ∧ Mem wr M ∧ Kp [] w wr)
      case atStart => exact ⟨0, Nat.zero_le _, by simp, rfl, fun i _ _ h => by omega, hM, Kp.refl _ _⟩
      case round =>
        obtain ⟨j, hj, hk, rfl, hsame, hM', hK'⟩ := hrel
        have HSM := Hid.mk hsame
        clear hsame
        by_cases hlt : j < a.l.length
        · have hlt2 : j < b.l.length := by have := H3.out; omega
          obtain ⟨A', c', h0, h1, h2, hxa⟩ := HA.out.at_ j hlt
          obtain ⟨B', d', k0, k1, k2, hxb⟩ := HB.out.at_ j hlt2
          have q0 := hM'.cell h0
          have q1 := hM'.cell h1
          have q2 := hM'.cell h2
          have hM2 := hM'.alloc (.cells #[.int .i64 a.l[j].op, .string (bs a.l[j].s), .slice A' a.l[j].l.length c'] 24)
          have r0 := hM2.cell k0
          have r1 := hM2.cell k1
          have r2 := hM2.cell k2
          have hM3 := hM2.alloc (.cells #[.int .i64 b.l[j].op, .string (bs b.l[j].s), .slice B' b.l[j].l.length d'] 24)
          have hcf := fun w => HC.out (.agg #[.int .i64 a.l[j].op, .string (bs a.l[j].s), .slice A' a.l[j].l.length c']) (.agg #[.int .i64 b.l[j].op, .string (bs b.l[j].s), .slice B' b.l[j].l.length d']) w
          have HX := Hid.mk (And.intro hxa (And.intro hxb (And.intro hM3 ((hK'.alloc (.cells #[.int .i64 a.l[j].op, .string (bs a.l[j].s), .slice A' a.l[j].l.length c'] 24)).alloc (.cells #[.int .i64 b.l[j].op, .string (bs b.l[j].s), .slice B' b.l[j].l.length d'] 24)))))
          clear h0 h1 h2 k0 k1 k2 hxa hxb hM' hK' hM2 hM3
          cases hs : same a.l[j] b.l[j] with
          | true =>
            have HJ := Hid.mk (same_iff.1 hs)
            have HC2 := Hid.mk (HK.out a.l[j] b.l[j] A' c' B' d' _ (List.getElem_mem hlt) HX.out.1 HX.out.2.1 HX.out.2.2.1)
            rw [hs] at HC2
            clear hs
            go_wp2_with fail
            refine HC2.out.mono ?_
            rintro en w2 ⟨rfl, hk2⟩
            have HZ := Hid.mk hk2
            clear hk2
            go_wp2_with fail
            go_roundg (a.l.length - (j + 1))
            case measure => omega
            case rel =>
              refine ⟨j + 1, by omega, rfl, by go_num, fun i h h' hij => ?_, HX.out.2.2.1.kp HZ.out (by simp), HX.out.2.2.2.trans HZ.out⟩
              rcases Nat.lt_or_ge i j with h4 | h4
              · exact HSM.out i h h' h4
              · obtain rfl : i = j := by omega
                exact HJ.out
          | false =>
            have HXX := Hid.mk (eqL_no (l := a.l) (m := b.l) (fun e => by
              have : a.l[j] = b.l[j] := by simp only [e]
              rw [same_iff.2 this] at hs; cases hs))
            have HC2 := Hid.mk (HK.out a.l[j] b.l[j] A' c' B' d' _ (List.getElem_mem hlt) HX.out.1 HX.out.2.1 HX.out.2.2.1)
            rw [hs] at HC2
            clear hs
            go_wp2_with fail
            refine HC2.out.mono ?_
            rintro en w2 ⟨rfl, hk2⟩
            have HZ := Hid.mk hk2
            clear hk2
            go_wp2_with fail
            go_ret
            exact ⟨ret_bool HXX.out.symm, HX.out.2.2.2.trans HZ.out⟩
        · obtain rfl : j = a.l.length := by omega
          have hlt' : ¬ ((a.l.length : Int) < (a.l.length : Int)) := by omega
          have HXX := Hid.mk (eqL_yes (l := a.l) (m := b.l) (List.ext_getElem H3.out (fun i h h' => HSM.out i h h' h)))
          go_wp2_with fail
          go_ret
          exact ⟨ret_bool HXX.out.symm, hK'⟩
  · have b3 : ((a.l.length : Int) != (b.l.length : Int)) = true := by simp; omega
    have HA := Hid.mk (eqL_no (l := a.l) (m := b.l) (fun e => h3 (by rw [e])))
    clear ha hb hl hK h3
    go_enter Tryz.func86, Tryz.ntmps86
    go_wp2_with fail
    go_ret
    exact ⟨ret_bool HA.out.symm, Kp.refl _ _⟩
set_option maxRecDepth 100000 in
set_option maxHeartbeats 2000000 in
theorem Same_calls (n : Nat) : ∀ (a b : E) (A B : Option Addr) (c d : Nat) (w : World) (M : Heap), ExV M a A c → ExV M b B d → Mem w M → a.size ≤ n → n ≤ 1099511627776 →
    Calls Tryz.prog 43 #[.agg #[.int .i64 a.op, .string (bs a.s), .slice A a.l.length c], .agg #[.int .i64 b.op, .string (bs b.s), .slice B b.l.length d]] w fun en w' => en = .returned (.bool (same a b)) ∧ Kp [] w w' := by
  induction n with
  | zero => intro a b A B c d w M ha hb hM hn; have := size_pos a; omega
  | succ n ih =>
    intro a b A B c d w M ha hb hM hn hbig
    have hn1 : sizes a.l ≤ n := by rw [E.size_eq] at hn; omega
    have hll := length_sizes a.l
    have hta := bs_toList a.s
    have htb := bs_toList b.s
    have HSP := Hid.mk (same_parts a b)
    clear hn
    by_cases h1 : a.op = b.op
    · have b1 : (a.op == b.op) = true := by simpa using h1
      have d1 : decide (a.op = b.op) = true := by simpa using h1
      by_cases h2 : a.s = b.s
      · have b2 : (a.s == b.s) = true := by simpa using h2
        have d2 : decide (a.s = b.s) = true := by simpa using h2
        have hM2 := (hM.alloc (.cells #[.int .i64 a.op, .string (bs a.s), .slice A a.l.length c] 24)).alloc (.cells #[.int .i64 b.op, .string (bs b.s), .slice B b.l.length d] 24)
        have hK2 := ((Kp.refl [] w).alloc (.cells #[.int .i64 a.op, .string (bs a.s), .slice A a.l.length c] 24)).alloc (.cells #[.int .i64 b.op, .string (bs b.s), .slice B b.l.length d] 24)
        have HE := Hid.mk (EqualFunc_calls (K := 43) ha hb (fun u v w => by kernel_rfl) (fun x y A c B d w hx hxa hyb hM => ih x y A B c d w M hxa hyb hM (by have := size_mem hx; omega) (by omega)) _ hM2 (by omega))
        rw [d1, d2, Bool.true_and, Bool.true_and] at HSP
        have HK2 := Hid.mk hK2
        clear h1 h2 d1 d2 ha hb hM hM2 hK2 ih
        go_enter Tryz.func43, Tryz.ntmps43
        go_wp2_with fail
        refine HE.out.mono ?_
        rintro en w2 ⟨rfl, hk2⟩
        have HZ := Hid.mk (HK2.out.trans hk2)
        clear hk2
        go_wp2_with fail
        go_ret
        exact ⟨ret_bool HSP.out.symm, HZ.out⟩
      · have b2 : (a.s == b.s) = false := by simpa using h2
        have d2 : decide (a.s = b.s) = false := by simpa using h2
        rw [d2, Bool.false_and, Bool.and_false] at HSP
        clear h1 h2 d1 d2 ha hb ih
        go_enter Tryz.func43, Tryz.ntmps43
        go_wp2_with fail
        go_ret
        exact ⟨ret_bool HSP.out.symm, ((Kp.refl _ _).alloc _).alloc _⟩
    · have b1 : (a.op == b.op) = false := by simpa using h1
      have d1 : decide (a.op = b.op) = false := by simpa using h1
      rw [d1, Bool.false_and] at HSP
      clear h1 d1 ha hb ih
      go_enter Tryz.func43, Tryz.ntmps43
      go_wp2_with fail
      go_ret
      exact ⟨ret_bool HSP.out.symm, ((Kp.refl _ _).alloc _).alloc _⟩
end Go.Proofs.YtgdnhlckodhhgaaGreatDoor
