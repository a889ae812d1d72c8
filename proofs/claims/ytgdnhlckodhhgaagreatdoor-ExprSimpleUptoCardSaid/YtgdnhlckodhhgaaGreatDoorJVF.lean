/-
  The reference's asker: Begins, Ends.
-/
import Derived.Test.YtgdnhlckodhhgaaGreatDoorJVE
import Derived.Test.YtgdnhlckodhhgaaGreatDoorJVA
namespace Go.Proofs.YtgdnhlckodhhgaaGreatDoor
open Go.RowKit
set_option linter.unusedVariables false
set_option linter.unusedSimpArgs false
/-- holds at the parts of a word. -/
theorem RH.cut {ga gm gi n cap L k : Nat} {V : Bs → Bool} {e : E} (hx : RH ga gm gi n cap V L k e) {M : Heap} {u : List Bs} {b o : Nat} (hrn : RN M gi n k e) (hcell : ∀ j, (h : j < u.length) → cellM M ⟨b, o + j, none⟩ = some (.string (bs u[j]))) (hok : OkW L u) (i m : Nat) (w : World) (him : i ≤ m) (hm : m ≤ u.length) (hM : Mem w M) (hA : AsR w M ga gm gi n cap V) :
    Calls Tryz.prog 50 #[.pointer (some ⟨ga, 0, none⟩), .int .i64 (k : Nat), .slice (some ⟨b, o + i, none⟩) (m - i) (m - i)] w (HR M ga gm gi n cap V w (rev e (part u i m))) := by
  have hl := part_length (i := i) hm
  have H := hx M (part u i m) (some ⟨b, o + i, none⟩) (m - i) w hrn (WvM.cut hcell hm) (by omega) (hok.sub (part_sub u i m)) hM hA
  rwa [hl] at H
theorem RH.empty {ga gm gi n cap L k : Nat} {V : Bs → Bool} {e : E} (hx : RH ga gm gi n cap V L k e) {M : Heap} (hrn : RN M gi n k e) (c : Nat) (w : World) (hM : Mem w M) (hA : AsR w M ga gm gi n cap V) :
    Calls Tryz.prog 50 #[.pointer (some ⟨ga, 0, none⟩), .int .i64 (k : Nat), .slice none 0 c] w (HR M ga gm gi n cap V w (rev e [])) :=
  hx M [] none c w hrn (.inl ⟨rfl, rfl⟩) (Nat.zero_le _) ⟨Nat.zero_le _, by simp⟩ hM hA
theorem RH.cut0 {ga gm gi n cap L k : Nat} {V : Bs → Bool} {e : E} (hx : RH ga gm gi n cap V L k e) {M : Heap} {b o : Nat} (hrn : RN M gi n k e) (w : World) (hM : Mem w M) (hA : AsR w M ga gm gi n cap V) :
    Calls Tryz.prog 50 #[.pointer (some ⟨ga, 0, none⟩), .int .i64 (k : Nat), .slice (some ⟨b, o, none⟩) 0 0] w (HR M ga gm gi n cap V w (rev e [])) :=
  hx M [] (some ⟨b, o, none⟩) 0 w hrn (.inr ⟨b, o, rfl, by simp⟩) (Nat.zero_le _) ⟨Nat.zero_le _, by simp⟩ hM hA
set_option maxRecDepth 100000 in
set_option maxHeartbeats 400000 in
theorem rAbegins_calls {ga gm gi n cap L k : Nat} {V : Bs → Bool} {e : E} (hL : L ≤ 60) (hx : RH ga gm gi n cap V L k e) (M : Heap) (u : List Bs) (A : Option Addr) (c : Nat) (w : World) (hrn : RN M gi n k e) (hws : WvM M A u) (hc : u.length ≤ c) (hok : OkW L u) (hM : Mem w M) (hA : AsR w M ga gm gi n cap V) :
    Calls Tryz.prog 182 #[.pointer (some ⟨ga, 0, none⟩), .int .i64 (k : Nat), .slice A u.length c] w (HR M ga gm gi n cap V w (beginsB (rev e) u)) := by
  have hul : u.length ≤ 60 := Nat.le_trans hok.1 hL
  rcases hws with ⟨rfl, rfl⟩ | ⟨b, o, rfl, hcell⟩
  · have HX := Hid.mk (fun c w => hx.empty hrn c w)
    have HH := Hid.mk (And.intro hM hA)
    have HB : Hid (beginsB (rev e) [] = rev e []) := Hid.mk (by simp [beginsB])
    have hc0 : (0 : Int) ≤ (c : Int) := by omega
    clear hx hrn hok hM hA hc hul
    rw [HB.out]
    rw [List.length_nil]
    cases hv : rev e [] with
    | true =>
      rw [hv] at HX
      clear hv HB
      go_enter Tryz.func182, Tryz.ntmps182
      go_wp2_with fail
      refine wp_loop_rounds 2 ?_
      rw [rounds_succ]
      go_wp2_with fail
      (with_reducible refine (HX.out _ _ HH.out.1 HH.out.2).mono ?_)
      rintro en w5 ⟨rfl, hM5, hA5, hk5⟩
      have HZ := Hid.mk (And.intro hM5 (And.intro hA5 hk5))
      clear hM5 hA5 hk5
      go_wp2_with fail
      go_ret
      exact ⟨rfl, HZ.out⟩
    | false =>
      rw [hv] at HX
      clear hv HB
      go_enter Tryz.func182, Tryz.ntmps182
      go_wp2_with fail
      refine wp_loop_rounds 2 ?_
      rw [rounds_succ]
      go_wp2_with fail
      (with_reducible refine (HX.out _ _ HH.out.1 HH.out.2).mono ?_)
      rintro en w5 ⟨rfl, hM5, hA5, hk5⟩
      have HZ := Hid.mk (And.intro hM5 (And.intro hA5 hk5))
      clear hM5 hA5 hk5
      go_wp2_with fail
      rw [rounds_succ]
      go_wp2_with fail
      go_ret
      exact ⟨rfl, HZ.out⟩
  · have HX := Hid.mk (fun i m w => hx.cut hrn hcell hok i m w)
    have H0 := Hid.mk (fun w => hx.cut0 (b := b) (o := o) hrn w)
    have HE : Hid (∀ i, i ≤ u.length → part u 0 i = u.take i) := Hid.mk (fun i hi => by simp [part])
    clear hx hrn hok hcell
    go_enter Tryz.func182, Tryz.ntmps182
    go_wp2_with fail
    go_loopg [7] (u.length + 1) (fun kk v wr => ∃ j : Nat, j ≤ u.length + 1 ∧ kk = u.length + 1 - j ∧ v = .int .i64 (j : Nat) ∧ Hid ((List.range j).any (fun i => rev e (u.take i)) = false) ∧ Hid (Mem wr M ∧ AsR wr M ga gm gi n cap V ∧ Kp [gm] w wr))
    case atStart => exact ⟨0, Nat.zero_le _, by simp, rfl, Hid.mk rfl, Hid.mk ⟨hM, hA, Kp.refl _ _⟩⟩
    case round =>
      obtain ⟨j, hj, hk, rfl, HJ, HW⟩ := hrel
      clear hM hA
      by_cases hlt : j ≤ u.length
      · have hlt' : (j : Int) ≤ (u.length : Int) := by omega
        have hjc : (j : Int) ≤ (c : Int) := by omega
        have huc : (u.length : Int) ≤ (c : Int) := by omega
        have HC := Hid.mk (HX.out 0 j wr (by omega) (by omega) HW.out.1 HW.out.2.1)
        rw [HE.out j hlt, Nat.sub_zero, Nat.add_zero] at HC
        have HR' := Hid.mk (any_range (f := fun i => rev e (u.take i)) j)
        cases hv : rev e (u.take j) with
        | true =>
          have HT : Hid (beginsB (rev e) u = true) := Hid.mk (by
            unfold beginsB
            rw [List.any_eq_true]
            exact ⟨j, by simp; omega, hv⟩)
          rw [hv] at HC
          clear hv
          go_wp2_with fail
          (with_reducible refine HC.out.mono ?_)
          rintro en w5 ⟨rfl, hM5, hA5, hk5⟩
          have HZ := Hid.mk (And.intro hM5 (And.intro hA5 (HW.out.2.2.trans hk5)))
          clear hM5 hA5 hk5
          go_wp2_with fail
          go_ret
          exact ⟨ret_bool HT.out.symm, HZ.out⟩
        | false =>
          have HT : Hid ((List.range (j + 1)).any (fun i => rev e (u.take i)) = false) := Hid.mk (by rw [HR'.out, HJ.out, hv]; rfl)
          rw [hv] at HC
          clear hv
          go_wp2_with fail
          (with_reducible refine HC.out.mono ?_)
          rintro en w5 ⟨rfl, hM5, hA5, hk5⟩
          have HZ := Hid.mk (And.intro hM5 (And.intro hA5 (HW.out.2.2.trans hk5)))
          clear hM5 hA5 hk5
          go_wp2_with fail
          go_roundg (u.length + 1 - (j + 1))
          case measure => omega
          case rel => exact ⟨j + 1, by omega, rfl, by go_num, HT, HZ⟩
      · obtain rfl : j = u.length + 1 := by omega
        have hlt' : ¬ (((u.length + 1 : Nat) : Int) ≤ (u.length : Int)) := by omega
        have HT : Hid (beginsB (rev e) u = false) := HJ
        go_wp2_with fail
        go_ret
        exact ⟨ret_bool HT.out.symm, HW.out⟩
set_option maxRecDepth 100000 in
set_option maxHeartbeats 400000 in
theorem rAends_calls {ga gm gi n cap L k : Nat} {V : Bs → Bool} {e : E} (hL : L ≤ 60) (hx : RH ga gm gi n cap V L k e) (M : Heap) (u : List Bs) (A : Option Addr) (c : Nat) (w : World) (hrn : RN M gi n k e) (hws : WvM M A u) (hc : u.length ≤ c) (hok : OkW L u) (hM : Mem w M) (hA : AsR w M ga gm gi n cap V) :
    Calls Tryz.prog 181 #[.pointer (some ⟨ga, 0, none⟩), .int .i64 (k : Nat), .slice A u.length c] w (HR M ga gm gi n cap V w (endsB (rev e) u)) := by
  have hul : u.length ≤ 60 := Nat.le_trans hok.1 hL
  rcases hws with ⟨rfl, rfl⟩ | ⟨b, o, rfl, hcell⟩
  · have HX := Hid.mk (fun c w => hx.empty hrn c w)
    have HH := Hid.mk (And.intro hM hA)
    have HB : Hid (endsB (rev e) [] = rev e []) := Hid.mk (by simp [endsB])
    have hc0 : (0 : Int) ≤ (c : Int) := by omega
    clear hx hrn hok hM hA hc hul
    rw [HB.out]
    rw [List.length_nil]
    cases hv : rev e [] with
    | true =>
      rw [hv] at HX
      clear hv HB
      go_enter Tryz.func181, Tryz.ntmps181
      go_wp2_with fail
      refine wp_loop_rounds 2 ?_
      rw [rounds_succ]
      go_wp2_with fail
      (with_reducible refine (HX.out _ _ HH.out.1 HH.out.2).mono ?_)
      rintro en w5 ⟨rfl, hM5, hA5, hk5⟩
      have HZ := Hid.mk (And.intro hM5 (And.intro hA5 hk5))
      clear hM5 hA5 hk5
      go_wp2_with fail
      go_ret
      exact ⟨rfl, HZ.out⟩
    | false =>
      rw [hv] at HX
      clear hv HB
      go_enter Tryz.func181, Tryz.ntmps181
      go_wp2_with fail
      refine wp_loop_rounds 2 ?_
      rw [rounds_succ]
      go_wp2_with fail
      (with_reducible refine (HX.out _ _ HH.out.1 HH.out.2).mono ?_)
      rintro en w5 ⟨rfl, hM5, hA5, hk5⟩
      have HZ := Hid.mk (And.intro hM5 (And.intro hA5 hk5))
      clear hM5 hA5 hk5
      go_wp2_with fail
      rw [rounds_succ]
      go_wp2_with fail
      go_ret
      exact ⟨rfl, HZ.out⟩
  · have HX := Hid.mk (fun i m w => hx.cut hrn hcell hok i m w)
    have H0 := Hid.mk (fun w => hx.cut0 (b := b) (o := o) hrn w)
    have HE : Hid (∀ i, i ≤ u.length → part u i u.length = u.drop i) := Hid.mk (fun i hi => by simp [part])
    clear hx hrn hok hcell
    go_enter Tryz.func181, Tryz.ntmps181
    go_wp2_with fail
    go_loopg [7] (u.length + 1) (fun kk v wr => ∃ j : Nat, j ≤ u.length + 1 ∧ kk = u.length + 1 - j ∧ v = .int .i64 (j : Nat) ∧ Hid ((List.range j).any (fun i => rev e (u.drop i)) = false) ∧ Hid (Mem wr M ∧ AsR wr M ga gm gi n cap V ∧ Kp [gm] w wr))
    case atStart => exact ⟨0, Nat.zero_le _, by simp, rfl, Hid.mk rfl, Hid.mk ⟨hM, hA, Kp.refl _ _⟩⟩
    case round =>
      obtain ⟨j, hj, hk, rfl, HJ, HW⟩ := hrel
      clear hM hA
      by_cases hlt : j ≤ u.length
      · have hlt' : (j : Int) ≤ (u.length : Int) := by omega
        have hjc : (j : Int) ≤ (c : Int) := by omega
        have huc : (u.length : Int) ≤ (c : Int) := by omega
        by_cases hz : j = u.length
        · have HC : Hid (Calls Tryz.prog 50 #[.pointer (some ⟨ga, 0, none⟩), .int .i64 (k : Nat), .slice (some ⟨b, o, none⟩) 0 0] wr (HR M ga gm gi n cap V wr (rev e (u.drop j)))) := Hid.mk (by
            have H := H0.out wr HW.out.1 HW.out.2.1
            have : u.drop j = [] := by rw [hz, List.drop_length]
            rwa [this])
          have hzi : (j : Int) = (u.length : Int) := by omega
          have HR' := Hid.mk (any_range (f := fun i => rev e (u.drop i)) j)
          cases hv : rev e (u.drop j) with
          | true =>
            have HT : Hid (endsB (rev e) u = true) := Hid.mk (by
              unfold endsB
              rw [List.any_eq_true]
              exact ⟨j, by simp; omega, hv⟩)
            rw [hv] at HC
            clear hv
            go_wp2_with fail
            (with_reducible refine HC.out.mono ?_)
            rintro en w5 ⟨rfl, hM5, hA5, hk5⟩
            have HZ := Hid.mk (And.intro hM5 (And.intro hA5 (HW.out.2.2.trans hk5)))
            clear hM5 hA5 hk5
            go_wp2_with fail
            go_ret
            exact ⟨ret_bool HT.out.symm, HZ.out⟩
          | false =>
            have HT : Hid ((List.range (j + 1)).any (fun i => rev e (u.drop i)) = false) := Hid.mk (by rw [HR'.out, HJ.out, hv]; rfl)
            rw [hv] at HC
            clear hv
            go_wp2_with fail
            (with_reducible refine HC.out.mono ?_)
            rintro en w5 ⟨rfl, hM5, hA5, hk5⟩
            have HZ := Hid.mk (And.intro hM5 (And.intro hA5 (HW.out.2.2.trans hk5)))
            clear hM5 hA5 hk5
            go_wp2_with fail
            go_roundg (u.length + 1 - (j + 1))
            case measure => omega
            case rel => exact ⟨j + 1, by omega, rfl, by go_num, HT, HZ⟩
        · have HC := Hid.mk (HX.out j u.length wr (by omega) (by omega) HW.out.1 HW.out.2.1)
          rw [HE.out j hlt] at HC
          have h1 : ¬ u.length = j := by omega
          have h2 : ¬ (j : Int) = (u.length : Int) := by omega
          have h3 : ¬ (u.length : Int) - (j : Int) = 0 := by omega
          have h4 : ¬ (u.length : Int) = (j : Int) := by omega
          have h5 : (j : Int) < (u.length : Int) := by omega
          have h6 : ¬ u.length - j = 0 := by omega
          have HR' := Hid.mk (any_range (f := fun i => rev e (u.drop i)) j)
          cases hv : rev e (u.drop j) with
          | true =>
            have HT : Hid (endsB (rev e) u = true) := Hid.mk (by
              unfold endsB
              rw [List.any_eq_true]
              exact ⟨j, by simp; omega, hv⟩)
            rw [hv] at HC
            clear hv
            go_wp2_with fail
            (with_reducible refine HC.out.mono ?_)
            rintro en w5 ⟨rfl, hM5, hA5, hk5⟩
            have HZ := Hid.mk (And.intro hM5 (And.intro hA5 (HW.out.2.2.trans hk5)))
            clear hM5 hA5 hk5
            go_wp2_with fail
            go_ret
            exact ⟨ret_bool HT.out.symm, HZ.out⟩
          | false =>
            have HT : Hid ((List.range (j + 1)).any (fun i => rev e (u.drop i)) = false) := Hid.mk (by rw [HR'.out, HJ.out, hv]; rfl)
            rw [hv] at HC
            clear hv
            go_wp2_with fail
            (with_reducible refine HC.out.mono ?_)
            rintro en w5 ⟨rfl, hM5, hA5, hk5⟩
            have HZ := Hid.mk (And.intro hM5 (And.intro hA5 (HW.out.2.2.trans hk5)))
            clear hM5 hA5 hk5
            go_wp2_with fail
            go_roundg (u.length + 1 - (j + 1))
            case measure => omega
            case rel => exact ⟨j + 1, by omega, rfl, by go_num, HT, HZ⟩
      · obtain rfl : j = u.length + 1 := by omega
        have hlt' : ¬ (((u.length + 1 : Nat) : Int) ≤ (u.length : Int)) := by omega
        have HT : Hid (endsB (rev e) u = false) := HJ
        go_wp2_with fail
        go_ret
        exact ⟨ret_bool HT.out.symm, HW.out⟩
end Go.Proofs.YtgdnhlckodhhgaaGreatDoor

/-
  The reference's asker: isWithin.
-/
namespace Go.Proofs.YtgdnhlckodhhgaaGreatDoor
open Go.RowKit
set_option linter.unusedVariables false
set_option linter.unusedSimpArgs false
theorem within_yes {p : List Bs → Bool} {u : List Bs} {i m : Nat} (h1 : i ≤ m) (h2 : m ≤ u.length) (h : p (part u i m) = true) : withinB p u = true := by
  unfold withinB
  rw [List.any_eq_true]
  refine ⟨i, by rw [List.mem_range]; omega, ?_⟩
  rw [List.any_eq_true]
  exact ⟨m - i, by rw [List.mem_range]; omega, by rw [show i + (m - i) = m by omega]; exact h⟩
theorem within_no {p : List Bs → Bool} {u : List Bs} (h : ∀ i m, i ≤ m → m ≤ u.length → p (part u i m) = false) : withinB p u = false := by
  unfold withinB
  rw [List.any_eq_false]
  intro i hi
  rw [Bool.not_eq_true, List.any_eq_false]
  intro d hd
  rw [List.mem_range] at hi hd
  rw [h i (i + d) (by omega) (by omega)]; simp
theorem part_self {α : Type} (u : List α) (i : Nat) : part u i i = [] := by
  unfold part
  apply List.drop_eq_nil_of_le
  rw [List.length_take]; omega
set_option maxRecDepth 100000 in
set_option maxHeartbeats 800000 in
theorem rAwithin_calls {ga gm gi n cap L k : Nat} {V : Bs → Bool} {e : E} (hL : L ≤ 60) (hx : RH ga gm gi n cap V L k e) (M : Heap) (u : List Bs) (A : Option Addr) (c : Nat) (w : World) (hrn : RN M gi n k e) (hws : WvM M A u) (hc : u.length ≤ c) (hok : OkW L u) (hM : Mem w M) (hA : AsR w M ga gm gi n cap V) :
    Calls Tryz.prog 131 #[.pointer (some ⟨ga, 0, none⟩), .int .i64 (k : Nat), .slice A u.length c] w (HR M ga gm gi n cap V w (withinB (rev e) u)) := by
  have hul : u.length ≤ 60 := Nat.le_trans hok.1 hL
  rcases hws with ⟨rfl, rfl⟩ | ⟨b, o, rfl, hcell⟩
  · have HX := Hid.mk (fun c w => hx.empty hrn c w)
    have HH := Hid.mk (And.intro hM hA)
    have HB : Hid (withinB (rev e) [] = rev e []) := Hid.mk (by simp [withinB, part])
    have hc0 : (0 : Int) ≤ (c : Int) := by omega
    clear hx hrn hok hM hA hc hul
    rw [HB.out]
    rw [List.length_nil]
    cases hv : rev e [] with
    | true =>
      rw [hv] at HX
      clear hv HB
      go_enter Tryz.func131, Tryz.ntmps131
      go_wp2_with fail
      refine wp_loop_rounds 2 ?_
      rw [rounds_succ]
      go_wp2_with fail
      refine wp_loop_rounds 2 ?_
      rw [rounds_succ]
      go_wp2_with fail
      (with_reducible refine (HX.out _ _ HH.out.1 HH.out.2).mono ?_)
      rintro en w5 ⟨rfl, hM5, hA5, hk5⟩
      have HZ := Hid.mk (And.intro hM5 (And.intro hA5 hk5))
      clear hM5 hA5 hk5
      go_wp2_with fail
      go_ret
      exact ⟨rfl, HZ.out⟩
    | false =>
      rw [hv] at HX
      clear hv HB
      go_enter Tryz.func131, Tryz.ntmps131
      go_wp2_with fail
      refine wp_loop_rounds 2 ?_
      rw [rounds_succ]
      go_wp2_with fail
      refine wp_loop_rounds 2 ?_
      rw [rounds_succ]
      go_wp2_with fail
      (with_reducible refine (HX.out _ _ HH.out.1 HH.out.2).mono ?_)
      rintro en w5 ⟨rfl, hM5, hA5, hk5⟩
      have HZ := Hid.mk (And.intro hM5 (And.intro hA5 hk5))
      clear hM5 hA5 hk5
      go_wp2_with fail
      rw [rounds_succ]
      go_wp2_with fail
      rw [rounds_succ]
      go_wp2_with fail
      go_ret
      exact ⟨rfl, HZ.out⟩
  · have HX := Hid.mk (fun i m w => hx.cut hrn hcell hok i m w)
    have H0 := Hid.mk (fun w => hx.cut0 (b := b) (o := o) hrn w)
    clear hx hrn hok hcell
    go_enter Tryz.func131, Tryz.ntmps131
    go_wp2_with fail
    go_loopg [7] (u.length + 1) (fun kk v wr => ∃ i : Nat, i ≤ u.length + 1 ∧ kk = u.length + 1 - i ∧ v = .int .i64 (i : Nat) ∧ Hid (∀ i' m, i' < i → i' ≤ m → m ≤ u.length → rev e (part u i' m) = false) ∧ Hid (Mem wr M ∧ AsR wr M ga gm gi n cap V ∧ Kp [gm] w wr))
    case atStart => exact ⟨0, Nat.zero_le _, by simp, rfl, Hid.mk (fun i' m h => absurd h (Nat.not_lt_zero _)), Hid.mk ⟨hM, hA, Kp.refl _ _⟩⟩
    case round =>
      obtain ⟨i, hi, hk, rfl, HI, HW⟩ := hrel
      have HKI := Hid.mk hk
      clear hk hM hA
      by_cases hlt : i ≤ u.length
      · have hlt' : (i : Int) ≤ (u.length : Int) := by omega
        go_wp2_with fail
        go_loopg [8] (u.length + 1 - i) (fun kk v wy => ∃ m : Nat, i ≤ m ∧ m ≤ u.length + 1 ∧ kk = u.length + 1 - m ∧ v = .int .i64 (m : Nat) ∧ Hid (∀ m', i ≤ m' → m' < m → rev e (part u i m') = false) ∧ Hid (Mem wy M ∧ AsR wy M ga gm gi n cap V ∧ Kp [gm] w wy))
        case atStart => exact ⟨i, Nat.le_refl _, by omega, rfl, rfl, Hid.mk (fun m' h1 h2 => absurd h1 (by omega)), HW⟩
        case round =>
          obtain ⟨m, him, hm2, hkk, rfl, HJ, HY⟩ := hrel
          have HKK := Hid.mk hkk
          clear hkk
          by_cases hmn : m ≤ u.length
          · have hmn' : (m : Int) ≤ (u.length : Int) := by omega
            have him' : (i : Int) ≤ (m : Int) := by omega
            have hmc : (m : Int) ≤ (c : Int) := by omega
            have huc : (u.length : Int) ≤ (c : Int) := by omega
            by_cases hz : i = m
            · have HC : Hid (Calls Tryz.prog 50 #[.pointer (some ⟨ga, 0, none⟩), .int .i64 (k : Nat), .slice (some ⟨b, o, none⟩) 0 0] wr (HR M ga gm gi n cap V wr (rev e (part u i m)))) := Hid.mk (by
                have H := H0.out wr HY.out.1 HY.out.2.1
                have : part u i m = [] := by rw [hz, part_self]
                rwa [this])
              subst hz
              cases hv : rev e (part u i i) with
              | true =>
                have HT := Hid.mk (within_yes (p := rev e) (Nat.le_refl _) hmn hv)
                rw [hv] at HC
                clear hv
                go_wp2_with fail
                (with_reducible refine HC.out.mono ?_)
                rintro en w5 ⟨rfl, hM5, hA5, hk5⟩
                have HZ := Hid.mk (And.intro hM5 (And.intro hA5 (HY.out.2.2.trans hk5)))
                clear hM5 hA5 hk5
                go_wp2_with fail
                go_ret
                exact ⟨ret_bool HT.out.symm, HZ.out⟩
              | false =>
                have HV := Hid.mk hv
                rw [hv] at HC
                clear hv
                go_wp2_with fail
                (with_reducible refine HC.out.mono ?_)
                rintro en w5 ⟨rfl, hM5, hA5, hk5⟩
                have HZ := Hid.mk (And.intro hM5 (And.intro hA5 (HY.out.2.2.trans hk5)))
                clear hM5 hA5 hk5
                go_wp2_with fail
                go_roundg (u.length + 1 - (i + 1))
                case measure => have := HKK.out; omega
                case rel => exact ⟨i + 1, by omega, by omega, rfl, by go_num, Hid.mk (fun m' h1 h2 => by
                    by_cases h : m' = i
                    · rw [h]; exact HV.out
                    · exact HJ.out m' h1 (by omega)), HZ⟩
            · have HC := Hid.mk (HX.out i m wr (by omega) (by omega) HY.out.1 HY.out.2.1)
              have h1 : ¬ m = i := by omega
              have h2 : ¬ (i : Int) = (m : Int) := by omega
              have h3 : ¬ (m : Int) - (i : Int) = 0 := by omega
              have h4 : ¬ (m : Int) = (i : Int) := by omega
              have h5 : (i : Int) < (m : Int) := by omega
              have h6 : ¬ m - i = 0 := by omega
              cases hv : rev e (part u i m) with
              | true =>
                have HT := Hid.mk (within_yes (p := rev e) him hmn hv)
                rw [hv] at HC
                clear hv
                go_wp2_with fail
                (with_reducible refine HC.out.mono ?_)
                rintro en w5 ⟨rfl, hM5, hA5, hk5⟩
                have HZ := Hid.mk (And.intro hM5 (And.intro hA5 (HY.out.2.2.trans hk5)))
                clear hM5 hA5 hk5
                go_wp2_with fail
                go_ret
                exact ⟨ret_bool HT.out.symm, HZ.out⟩
              | false =>
                have HV := Hid.mk hv
                rw [hv] at HC
                clear hv
                go_wp2_with fail
                (with_reducible refine HC.out.mono ?_)
                rintro en w5 ⟨rfl, hM5, hA5, hk5⟩
                have HZ := Hid.mk (And.intro hM5 (And.intro hA5 (HY.out.2.2.trans hk5)))
                clear hM5 hA5 hk5
                go_wp2_with fail
                go_roundg (u.length + 1 - (m + 1))
                case measure => have := HKK.out; omega
                case rel => exact ⟨m + 1, by omega, by omega, rfl, by go_num, Hid.mk (fun m' h1 h2 => by
                    by_cases h : m' = m
                    · rw [h]; exact HV.out
                    · exact HJ.out m' h1 (by omega)), HZ⟩
          · obtain rfl : m = u.length + 1 := by omega
            have hmn' : ¬ (((u.length + 1 : Nat) : Int) ≤ (u.length : Int)) := by omega
            go_wp2_with fail
            go_roundg (u.length + 1 - (i + 1))
            case measure => have := HKI.out; omega
            case rel => exact ⟨i + 1, by omega, rfl, by go_num, Hid.mk (fun i' m h1 h2 h3 => by
              by_cases h : i' = i
              · rw [h]; exact HJ.out m (by omega) (by omega)
              · exact HI.out i' m (by omega) h2 h3), HY⟩
      · obtain rfl : i = u.length + 1 := by omega
        have hlt' : ¬ (((u.length + 1 : Nat) : Int) ≤ (u.length : Int)) := by omega
        have HT : Hid (withinB (rev e) u = false) := Hid.mk (within_no (fun i m h1 h2 => HI.out i m (by omega) h1 h2))
        go_wp2_with fail
        go_ret
        exact ⟨ret_bool HT.out.symm, HW.out⟩
end Go.Proofs.YtgdnhlckodhhgaaGreatDoor

/-
  The reference's asker: isOnly.
-/
namespace Go.Proofs.YtgdnhlckodhhgaaGreatDoor
open Go.RowKit
set_option linter.unusedVariables false
set_option linter.unusedSimpArgs false
def onlyPR (p q r : List Bs → Bool) (u : List Bs) (i m : Nat) : Bool := p (part u i m) && (!endsB q (u.take i) || !beginsB r (u.drop m))
theorem onlyR_no {p q r : List Bs → Bool} {u : List Bs} {i m : Nat} (h1 : i ≤ m) (h2 : m ≤ u.length) (h : onlyPR p q r u i m = true) : onlyB p q r u = false := by
  unfold onlyB
  rw [List.all_eq_false]
  refine ⟨i, by rw [List.mem_range]; omega, ?_⟩
  rw [Bool.not_eq_true, List.all_eq_false]
  refine ⟨m - i, by rw [List.mem_range]; omega, ?_⟩
  rw [show i + (m - i) = m by omega]
  unfold onlyPR at h
  revert h
  cases p (part u i m) <;> cases endsB q (u.take i) <;> cases beginsB r (u.drop m) <;> simp
theorem onlyR_yes {p q r : List Bs → Bool} {u : List Bs} (h : ∀ i m, i ≤ m → m ≤ u.length → onlyPR p q r u i m = false) : onlyB p q r u = true := by
  unfold onlyB
  rw [List.all_eq_true]
  intro i hi
  rw [List.all_eq_true]
  intro j hj
  rw [List.mem_range] at hi hj
  have := h i (i + j) (by omega) (by omega)
  unfold onlyPR at this
  revert this
  cases p (part u i (i + j)) <;> cases endsB q (u.take i) <;> cases beginsB r (u.drop (i + j)) <;> simp
set_option maxRecDepth 100000 in
set_option maxHeartbeats 2000000 in
theorem rAonly_some {ga gm gi n cap L k0 k1 k2 : Nat} {V : Bs → Bool} {e0 e1 e2 : E} (hL : L ≤ 60) (hx0 : RH ga gm gi n cap V L k0 e0) (hx1 : RH ga gm gi n cap V L k1 e1) (hx2 : RH ga gm gi n cap V L k2 e2) (M : Heap) (u : List Bs) (b o bk ok c ck : Nat) (w : World) (hr0 : RN M gi n k0 e0) (hr1 : RN M gi n k1 e1) (hr2 : RN M gi n k2 e2)
    (hk0 : cellM M ⟨bk, ok, none⟩ = some (.int .i64 (k0 : Nat))) (hk1 : cellM M ⟨bk, ok + 1, none⟩ = some (.int .i64 (k1 : Nat))) (hk2 : cellM M ⟨bk, ok + 2, none⟩ = some (.int .i64 (k2 : Nat))) (hcell : ∀ j, (h : j < u.length) → cellM M ⟨b, o + j, none⟩ = some (.string (bs u[j]))) (hc : u.length ≤ c) (hok : OkW L u) (hM : Mem w M) (hA : AsR w M ga gm gi n cap V) :
    Calls Tryz.prog 133 #[.pointer (some ⟨ga, 0, none⟩), .slice (some ⟨bk, ok, none⟩) 3 ck, .slice (some ⟨b, o, none⟩) u.length c] w (HR M ga gm gi n cap V w (onlyB (rev e0) (rev e1) (rev e2) u)) := by
  have hul : u.length ≤ 60 := Nat.le_trans hok.1 hL
  have HCK := Hid.mk (And.intro hk0 (And.intro hk1 hk2))
  have HA0 := Hid.mk (fun i m w => hx0.cut hr0 hcell hok i m w)
  have HA0z : Hid (∀ i w, Mem w M → AsR w M ga gm gi n cap V → Calls Tryz.prog 50 #[.pointer (some ⟨ga, 0, none⟩), .int .i64 (k0 : Nat), .slice (some ⟨b, o, none⟩) 0 0] w (HR M ga gm gi n cap V w (rev e0 (part u i i)))) := Hid.mk (fun i w h1 h2 => by rw [part_self]; exact hx0.cut0 hr0 w h1 h2)
  have HA1 : Hid (∀ i w, i ≤ u.length → Mem w M → AsR w M ga gm gi n cap V → Calls Tryz.prog 181 #[.pointer (some ⟨ga, 0, none⟩), .int .i64 (k1 : Nat), .slice (some ⟨b, o, none⟩) i i] w (HR M ga gm gi n cap V w (endsB (rev e1) (u.take i)))) := Hid.mk (fun i w hi h1 h2 => by
    have hlen : (u.take i).length = i := by rw [List.length_take]; omega
    have H := rAends_calls hL hx1 M (u.take i) (some ⟨b, o, none⟩) i w hr1 (.inr ⟨b, o, rfl, fun j hj => by
      have e : (u.take i)[j] = u[j]'(by omega) := by simp
      rw [e]; exact hcell j (by omega)⟩) (by omega) (hok.sub (List.take_sublist _ _)) h1 h2
    rwa [hlen] at H)
  have HA2 : Hid (∀ m w, m ≤ u.length → Mem w M → AsR w M ga gm gi n cap V → Calls Tryz.prog 182 #[.pointer (some ⟨ga, 0, none⟩), .int .i64 (k2 : Nat), .slice (some ⟨b, o + m, none⟩) (u.length - m) (u.length - m)] w (HR M ga gm gi n cap V w (beginsB (rev e2) (u.drop m)))) := Hid.mk (fun m w hm h1 h2 => by
    have hlen : (u.drop m).length = u.length - m := by rw [List.length_drop]
    have H := rAbegins_calls hL hx2 M (u.drop m) (some ⟨b, o + m, none⟩) (u.length - m) w hr2 (.inr ⟨b, o + m, rfl, fun j hj => by
      have e : (u.drop m)[j] = u[m + j]'(by omega) := by simp
      rw [e, Nat.add_assoc]; exact hcell (m + j) (by omega)⟩) (by omega) (hok.sub (List.drop_sublist _ _)) h1 h2
    rwa [hlen] at H)
  have HA2z : Hid (∀ w, Mem w M → AsR w M ga gm gi n cap V → Calls Tryz.prog 182 #[.pointer (some ⟨ga, 0, none⟩), .int .i64 (k2 : Nat), .slice (some ⟨b, o, none⟩) 0 0] w (HR M ga gm gi n cap V w (beginsB (rev e2) (u.drop u.length)))) := Hid.mk (fun w h1 h2 => by
    rw [List.drop_length]
    exact rAbegins_calls hL hx2 M [] (some ⟨b, o, none⟩) 0 w hr2 (.inr ⟨b, o, rfl, by simp⟩) (by simp) ⟨Nat.zero_le _, by simp⟩ h1 h2)
  clear hx0 hx1 hx2 hr0 hr1 hr2 hk0 hk1 hk2 hcell hok
  have hN0 : ∃ N, u.length = N := ⟨_, rfl⟩
  obtain ⟨N, hN⟩ := hN0
  have HN := Hid.mk hN
  simp only [hN] at hc hul HA0 HA1 HA2 HA2z ⊢
  clear hN
  go_enter Tryz.func133, Tryz.ntmps133
  go_wp2_with fail
  go_loopg [7] (N + 1) (fun kk v wr => ∃ i : Nat, i ≤ N + 1 ∧ kk = N + 1 - i ∧ v = .int .i64 (i : Nat) ∧ Hid (∀ i' m, i' < i → i' ≤ m → m ≤ N → onlyPR (rev e0) (rev e1) (rev e2) u i' m = false) ∧ Hid (Mem wr M ∧ AsR wr M ga gm gi n cap V ∧ Kp [gm] w wr))
  case atStart => exact ⟨0, Nat.zero_le _, by simp, rfl, Hid.mk (fun i' m h => absurd h (Nat.not_lt_zero _)), Hid.mk ⟨hM, hA, Kp.refl _ _⟩⟩
  case round =>
    obtain ⟨i, hi, hk, rfl, HI, HW⟩ := hrel
    have HKI := Hid.mk hk
    clear hk hM hA
    by_cases hlt : i ≤ N
    · have hlt' : (i : Int) ≤ (N : Int) := by omega
      go_wp2_with fail
      go_loopg [8] (N + 1 - i) (fun kk v wy => ∃ m : Nat, i ≤ m ∧ m ≤ N + 1 ∧ kk = N + 1 - m ∧ v = .int .i64 (m : Nat) ∧ Hid (∀ m', i ≤ m' → m' < m → onlyPR (rev e0) (rev e1) (rev e2) u i m' = false) ∧ Hid (Mem wy M ∧ AsR wy M ga gm gi n cap V ∧ Kp [gm] w wy))
      case atStart => exact ⟨i, Nat.le_refl _, by omega, rfl, rfl, Hid.mk (fun m' h1 h2 => absurd h1 (by omega)), HW⟩
      case round =>
        obtain ⟨m, him, hm2, hkk, rfl, HJ, HY⟩ := hrel
        have HKK := Hid.mk hkk
        clear hkk
        by_cases hmn : m ≤ N
        · have hmn' : (m : Int) ≤ (N : Int) := by omega
          have him' : (i : Int) ≤ (m : Int) := by omega
          have hmc : (m : Int) ≤ (c : Int) := by omega
          have hic : (i : Int) ≤ (c : Int) := by omega
          have huc : (N : Int) ≤ (c : Int) := by omega
          by_cases hz : i = m
          · subst hz
            by_cases hy : i = N
            · subst hy
              obtain ⟨τ, W, x0, hx0, hC, hin⟩ := class_of (fun w' => Mem w' M ∧ AsR w' M ga gm gi n cap V ∧ Kp [gm] w w') (w := wr.drew) ⟨HY.out.1.drew, HY.out.2.1.kp ((Kp.refl [] _).drew) (by simp) (by simp), HY.out.2.2.drew⟩
              have hne : Nonempty τ := ⟨x0⟩
              have HC := Hid.mk hC
              have HIN := Hid.mk hin
              have HX0 := Hid.mk hx0
              clear hC hin hx0
              have d0 : ∀ x, (W x).cell? ⟨bk, ok, none⟩ = some (.int .i64 (k0 : Nat)) := fun x => (HC.out x).1.cell HCK.out.1
              have d1 : ∀ x, (W x).cell? ⟨bk, ok + 1, none⟩ = some (.int .i64 (k1 : Nat)) := fun x => (HC.out x).1.cell HCK.out.2.1
              have d2 : ∀ x, (W x).cell? ⟨bk, ok + 2, none⟩ = some (.int .i64 (k2 : Nat)) := fun x => (HC.out x).1.cell HCK.out.2.2
              have HP : Hid (∀ x, Calls Tryz.prog 50 #[.pointer (some ⟨ga, 0, none⟩), .int .i64 (k0 : Nat), .slice (some ⟨b, o, none⟩) 0 0] (W x) (fun e w' => e = .returned (.bool (rev e0 (part u i i))) ∧ ∃ x, w' = W x)) := Hid.mk (fun x => (HA0z.out i (W x) (HC.out x).1 (HC.out x).2.1).mono (by rintro e w5 ⟨rfl, hM5, hA5, hk5⟩; exact ⟨rfl, HIN.out _ ⟨hM5, hA5, (HC.out x).2.2.trans hk5⟩⟩))
              have HQ : Hid (∀ x, Calls Tryz.prog 181 #[.pointer (some ⟨ga, 0, none⟩), .int .i64 (k1 : Nat), .slice (some ⟨b, o, none⟩) i i] (W x) (fun e w' => e = .returned (.bool (endsB (rev e1) (u.take i))) ∧ ∃ x, w' = W x)) := Hid.mk (fun x => (HA1.out i (W x) (by omega) (HC.out x).1 (HC.out x).2.1).mono (by rintro e w5 ⟨rfl, hM5, hA5, hk5⟩; exact ⟨rfl, HIN.out _ ⟨hM5, hA5, (HC.out x).2.2.trans hk5⟩⟩))
              have HRB : Hid (∀ x, Calls Tryz.prog 182 #[.pointer (some ⟨ga, 0, none⟩), .int .i64 (k2 : Nat), .slice (some ⟨b, o, none⟩) 0 0] (W x) (fun e w' => e = .returned (.bool (beginsB (rev e2) (u.drop i))) ∧ ∃ x, w' = W x)) := Hid.mk (fun x => (HA2z.out (W x) (HC.out x).1 (HC.out x).2.1).mono (by rintro e w5 ⟨rfl, hM5, hA5, hk5⟩; exact ⟨rfl, HIN.out _ ⟨hM5, hA5, (HC.out x).2.2.trans hk5⟩⟩))
              have HNO := Hid.mk (onlyR_no (p := rev e0) (q := rev e1) (r := rev e2) (u := u) (i := i) (m := i) (by omega) (by have := HN.out; omega))
              have HPD : Hid (onlyPR (rev e0) (rev e1) (rev e2) u i i = (rev e0 (part u i i) && (!endsB (rev e1) (u.take i) || !beginsB (rev e2) (u.drop i)))) := Hid.mk rfl
              cases hv0 : rev e0 (part u i i) with
              | false =>
                rw [hv0] at HP HPD
                clear hv0
                go_upto_region 7 with fail
                refine wp_region_cls W x0 HX0.out (by kernel_rfl) (by kernel_rfl) ?_
                repeat (go_big_quiet_step (first | (go_at_call 50; exact HP.out _) | fail))
                refine wpQuiet_nil ?_
                rintro _ ⟨x, rfl⟩
                have HZ := Hid.mk (HC.out x)
                clear HC HIN HX0 HP HQ HRB d0 d1 d2 hne
                go_wp2_with fail
                go_roundg (i + 1 - (i + 1))
                case measure => have := HKK.out; omega
                case rel => exact ⟨i + 1, by omega, by omega, rfl, by go_num, Hid.mk (fun m' h1 h2 => by
                    by_cases h : m' = i
                    · rw [h, HPD.out]; rfl
                    · exact HJ.out m' h1 (by omega)), HZ⟩
              | true =>
                rw [hv0] at HP HPD
                clear hv0
                cases hv1 : endsB (rev e1) (u.take i) with
                | false =>
                  rw [hv1] at HQ HPD
                  clear hv1
                  go_upto_region 7 with fail
                  refine wp_region_cls W x0 HX0.out (by kernel_rfl) (by kernel_rfl) ?_
                  repeat (go_big_quiet_step (first | (go_at_call 50; exact HP.out _) | (go_at_call 181; exact HQ.out _) | fail))
                  refine wpQuiet_nil ?_
                  rintro _ ⟨x, rfl⟩
                  have HZ := Hid.mk (HC.out x)
                  clear HC HIN HX0 HP HQ HRB d0 d1 d2 hne
                  go_wp2_with fail
                  go_ret
                  exact ⟨ret_bool (HNO.out (by rw [HPD.out]; rfl)).symm, HZ.out.1, HZ.out.2.1, HZ.out.2.2⟩
                | true =>
                  rw [hv1] at HQ HPD
                  clear hv1
                  cases hv2 : beginsB (rev e2) (u.drop i) with
                  | false =>
                    rw [hv2] at HRB HPD
                    clear hv2
                    go_upto_region 7 with fail
                    refine wp_region_cls W x0 HX0.out (by kernel_rfl) (by kernel_rfl) ?_
                    repeat (go_big_quiet_step (first | (go_at_call 50; exact HP.out _) | (go_at_call 181; exact HQ.out _) | (go_at_call 182; exact HRB.out _) | fail))
                    refine wpQuiet_nil ?_
                    rintro _ ⟨x, rfl⟩
                    have HZ := Hid.mk (HC.out x)
                    clear HC HIN HX0 HP HQ HRB d0 d1 d2 hne
                    go_wp2_with fail
                    go_ret
                    exact ⟨ret_bool (HNO.out (by rw [HPD.out]; rfl)).symm, HZ.out.1, HZ.out.2.1, HZ.out.2.2⟩
                  | true =>
                    rw [hv2] at HRB HPD
                    clear hv2
                    go_upto_region 7 with fail
                    refine wp_region_cls W x0 HX0.out (by kernel_rfl) (by kernel_rfl) ?_
                    repeat (go_big_quiet_step (first | (go_at_call 50; exact HP.out _) | (go_at_call 181; exact HQ.out _) | (go_at_call 182; exact HRB.out _) | fail))
                    refine wpQuiet_nil ?_
                    rintro _ ⟨x, rfl⟩
                    have HZ := Hid.mk (HC.out x)
                    clear HC HIN HX0 HP HQ HRB d0 d1 d2 hne
                    go_wp2_with fail
                    go_roundg (i + 1 - (i + 1))
                    case measure => have := HKK.out; omega
                    case rel => exact ⟨i + 1, by omega, by omega, rfl, by go_num, Hid.mk (fun m' h1 h2 => by
                        by_cases h : m' = i
                        · rw [h, HPD.out]; rfl
                        · exact HJ.out m' h1 (by omega)), HZ⟩
            · have g1 : ¬ N = i := by omega
              have g2 : ¬ (i : Int) = (N : Int) := by omega
              have g3 : ¬ (N : Int) - (i : Int) = 0 := by omega
              have g4 : ¬ (N : Int) = (i : Int) := by omega
              have g5 : (i : Int) < (N : Int) := by omega
              have g6 : ¬ N - i = 0 := by omega
              obtain ⟨τ, W, x0, hx0, hC, hin⟩ := class_of (fun w' => Mem w' M ∧ AsR w' M ga gm gi n cap V ∧ Kp [gm] w w') (w := wr.drew) ⟨HY.out.1.drew, HY.out.2.1.kp ((Kp.refl [] _).drew) (by simp) (by simp), HY.out.2.2.drew⟩
              have hne : Nonempty τ := ⟨x0⟩
              have HC := Hid.mk hC
              have HIN := Hid.mk hin
              have HX0 := Hid.mk hx0
              clear hC hin hx0
              have d0 : ∀ x, (W x).cell? ⟨bk, ok, none⟩ = some (.int .i64 (k0 : Nat)) := fun x => (HC.out x).1.cell HCK.out.1
              have d1 : ∀ x, (W x).cell? ⟨bk, ok + 1, none⟩ = some (.int .i64 (k1 : Nat)) := fun x => (HC.out x).1.cell HCK.out.2.1
              have d2 : ∀ x, (W x).cell? ⟨bk, ok + 2, none⟩ = some (.int .i64 (k2 : Nat)) := fun x => (HC.out x).1.cell HCK.out.2.2
              have HP : Hid (∀ x, Calls Tryz.prog 50 #[.pointer (some ⟨ga, 0, none⟩), .int .i64 (k0 : Nat), .slice (some ⟨b, o, none⟩) 0 0] (W x) (fun e w' => e = .returned (.bool (rev e0 (part u i i))) ∧ ∃ x, w' = W x)) := Hid.mk (fun x => (HA0z.out i (W x) (HC.out x).1 (HC.out x).2.1).mono (by rintro e w5 ⟨rfl, hM5, hA5, hk5⟩; exact ⟨rfl, HIN.out _ ⟨hM5, hA5, (HC.out x).2.2.trans hk5⟩⟩))
              have HQ : Hid (∀ x, Calls Tryz.prog 181 #[.pointer (some ⟨ga, 0, none⟩), .int .i64 (k1 : Nat), .slice (some ⟨b, o, none⟩) i i] (W x) (fun e w' => e = .returned (.bool (endsB (rev e1) (u.take i))) ∧ ∃ x, w' = W x)) := Hid.mk (fun x => (HA1.out i (W x) (by omega) (HC.out x).1 (HC.out x).2.1).mono (by rintro e w5 ⟨rfl, hM5, hA5, hk5⟩; exact ⟨rfl, HIN.out _ ⟨hM5, hA5, (HC.out x).2.2.trans hk5⟩⟩))
              have HRB : Hid (∀ x, Calls Tryz.prog 182 #[.pointer (some ⟨ga, 0, none⟩), .int .i64 (k2 : Nat), .slice (some ⟨b, o + i, none⟩) (N - i) (N - i)] (W x) (fun e w' => e = .returned (.bool (beginsB (rev e2) (u.drop i))) ∧ ∃ x, w' = W x)) := Hid.mk (fun x => (HA2.out i (W x) (by omega) (HC.out x).1 (HC.out x).2.1).mono (by rintro e w5 ⟨rfl, hM5, hA5, hk5⟩; exact ⟨rfl, HIN.out _ ⟨hM5, hA5, (HC.out x).2.2.trans hk5⟩⟩))
              have HNO := Hid.mk (onlyR_no (p := rev e0) (q := rev e1) (r := rev e2) (u := u) (i := i) (m := i) (by omega) (by have := HN.out; omega))
              have HPD : Hid (onlyPR (rev e0) (rev e1) (rev e2) u i i = (rev e0 (part u i i) && (!endsB (rev e1) (u.take i) || !beginsB (rev e2) (u.drop i)))) := Hid.mk rfl
              cases hv0 : rev e0 (part u i i) with
              | false =>
                rw [hv0] at HP HPD
                clear hv0
                go_upto_region 7 with fail
                refine wp_region_cls W x0 HX0.out (by kernel_rfl) (by kernel_rfl) ?_
                repeat (go_big_quiet_step (first | (go_at_call 50; exact HP.out _) | fail))
                refine wpQuiet_nil ?_
                rintro _ ⟨x, rfl⟩
                have HZ := Hid.mk (HC.out x)
                clear HC HIN HX0 HP HQ HRB d0 d1 d2 hne
                go_wp2_with fail
                go_roundg (N + 1 - (i + 1))
                case measure => have := HKK.out; omega
                case rel => exact ⟨i + 1, by omega, by omega, rfl, by go_num, Hid.mk (fun m' h1 h2 => by
                    by_cases h : m' = i
                    · rw [h, HPD.out]; rfl
                    · exact HJ.out m' h1 (by omega)), HZ⟩
              | true =>
                rw [hv0] at HP HPD
                clear hv0
                cases hv1 : endsB (rev e1) (u.take i) with
                | false =>
                  rw [hv1] at HQ HPD
                  clear hv1
                  go_upto_region 7 with fail
                  refine wp_region_cls W x0 HX0.out (by kernel_rfl) (by kernel_rfl) ?_
                  repeat (go_big_quiet_step (first | (go_at_call 50; exact HP.out _) | (go_at_call 181; exact HQ.out _) | fail))
                  refine wpQuiet_nil ?_
                  rintro _ ⟨x, rfl⟩
                  have HZ := Hid.mk (HC.out x)
                  clear HC HIN HX0 HP HQ HRB d0 d1 d2 hne
                  go_wp2_with fail
                  go_ret
                  exact ⟨ret_bool (HNO.out (by rw [HPD.out]; rfl)).symm, HZ.out.1, HZ.out.2.1, HZ.out.2.2⟩
                | true =>
                  rw [hv1] at HQ HPD
                  clear hv1
                  cases hv2 : beginsB (rev e2) (u.drop i) with
                  | false =>
                    rw [hv2] at HRB HPD
                    clear hv2
                    go_upto_region 7 with fail
                    refine wp_region_cls W x0 HX0.out (by kernel_rfl) (by kernel_rfl) ?_
                    repeat (go_big_quiet_step (first | (go_at_call 50; exact HP.out _) | (go_at_call 181; exact HQ.out _) | (go_at_call 182; exact HRB.out _) | fail))
                    refine wpQuiet_nil ?_
                    rintro _ ⟨x, rfl⟩
                    have HZ := Hid.mk (HC.out x)
                    clear HC HIN HX0 HP HQ HRB d0 d1 d2 hne
                    go_wp2_with fail
                    go_ret
                    exact ⟨ret_bool (HNO.out (by rw [HPD.out]; rfl)).symm, HZ.out.1, HZ.out.2.1, HZ.out.2.2⟩
                  | true =>
                    rw [hv2] at HRB HPD
                    clear hv2
                    go_upto_region 7 with fail
                    refine wp_region_cls W x0 HX0.out (by kernel_rfl) (by kernel_rfl) ?_
                    repeat (go_big_quiet_step (first | (go_at_call 50; exact HP.out _) | (go_at_call 181; exact HQ.out _) | (go_at_call 182; exact HRB.out _) | fail))
                    refine wpQuiet_nil ?_
                    rintro _ ⟨x, rfl⟩
                    have HZ := Hid.mk (HC.out x)
                    clear HC HIN HX0 HP HQ HRB d0 d1 d2 hne
                    go_wp2_with fail
                    go_roundg (N + 1 - (i + 1))
                    case measure => have := HKK.out; omega
                    case rel => exact ⟨i + 1, by omega, by omega, rfl, by go_num, Hid.mk (fun m' h1 h2 => by
                        by_cases h : m' = i
                        · rw [h, HPD.out]; rfl
                        · exact HJ.out m' h1 (by omega)), HZ⟩
          · have h1 : ¬ m = i := by omega
            have h2 : ¬ (i : Int) = (m : Int) := by omega
            have h3 : ¬ (m : Int) - (i : Int) = 0 := by omega
            have h4 : ¬ (m : Int) = (i : Int) := by omega
            have h5 : (i : Int) < (m : Int) := by omega
            have h6 : ¬ m - i = 0 := by omega
            by_cases hy : m = N
            · subst hy
              obtain ⟨τ, W, x0, hx0, hC, hin⟩ := class_of (fun w' => Mem w' M ∧ AsR w' M ga gm gi n cap V ∧ Kp [gm] w w') (w := wr.drew) ⟨HY.out.1.drew, HY.out.2.1.kp ((Kp.refl [] _).drew) (by simp) (by simp), HY.out.2.2.drew⟩
              have hne : Nonempty τ := ⟨x0⟩
              have HC := Hid.mk hC
              have HIN := Hid.mk hin
              have HX0 := Hid.mk hx0
              clear hC hin hx0
              have d0 : ∀ x, (W x).cell? ⟨bk, ok, none⟩ = some (.int .i64 (k0 : Nat)) := fun x => (HC.out x).1.cell HCK.out.1
              have d1 : ∀ x, (W x).cell? ⟨bk, ok + 1, none⟩ = some (.int .i64 (k1 : Nat)) := fun x => (HC.out x).1.cell HCK.out.2.1
              have d2 : ∀ x, (W x).cell? ⟨bk, ok + 2, none⟩ = some (.int .i64 (k2 : Nat)) := fun x => (HC.out x).1.cell HCK.out.2.2
              have HP : Hid (∀ x, Calls Tryz.prog 50 #[.pointer (some ⟨ga, 0, none⟩), .int .i64 (k0 : Nat), .slice (some ⟨b, o + i, none⟩) (m - i) (m - i)] (W x) (fun e w' => e = .returned (.bool (rev e0 (part u i m))) ∧ ∃ x, w' = W x)) := Hid.mk (fun x => (HA0.out i m (W x) (by omega) (by omega) (HC.out x).1 (HC.out x).2.1).mono (by rintro e w5 ⟨rfl, hM5, hA5, hk5⟩; exact ⟨rfl, HIN.out _ ⟨hM5, hA5, (HC.out x).2.2.trans hk5⟩⟩))
              have HQ : Hid (∀ x, Calls Tryz.prog 181 #[.pointer (some ⟨ga, 0, none⟩), .int .i64 (k1 : Nat), .slice (some ⟨b, o, none⟩) i i] (W x) (fun e w' => e = .returned (.bool (endsB (rev e1) (u.take i))) ∧ ∃ x, w' = W x)) := Hid.mk (fun x => (HA1.out i (W x) (by omega) (HC.out x).1 (HC.out x).2.1).mono (by rintro e w5 ⟨rfl, hM5, hA5, hk5⟩; exact ⟨rfl, HIN.out _ ⟨hM5, hA5, (HC.out x).2.2.trans hk5⟩⟩))
              have HRB : Hid (∀ x, Calls Tryz.prog 182 #[.pointer (some ⟨ga, 0, none⟩), .int .i64 (k2 : Nat), .slice (some ⟨b, o, none⟩) 0 0] (W x) (fun e w' => e = .returned (.bool (beginsB (rev e2) (u.drop m))) ∧ ∃ x, w' = W x)) := Hid.mk (fun x => (HA2z.out (W x) (HC.out x).1 (HC.out x).2.1).mono (by rintro e w5 ⟨rfl, hM5, hA5, hk5⟩; exact ⟨rfl, HIN.out _ ⟨hM5, hA5, (HC.out x).2.2.trans hk5⟩⟩))
              have HNO := Hid.mk (onlyR_no (p := rev e0) (q := rev e1) (r := rev e2) (u := u) (i := i) (m := m) (by omega) (by have := HN.out; omega))
              have HPD : Hid (onlyPR (rev e0) (rev e1) (rev e2) u i m = (rev e0 (part u i m) && (!endsB (rev e1) (u.take i) || !beginsB (rev e2) (u.drop m)))) := Hid.mk rfl
              cases hv0 : rev e0 (part u i m) with
              | false =>
                rw [hv0] at HP HPD
                clear hv0
                go_upto_region 7 with fail
                refine wp_region_cls W x0 HX0.out (by kernel_rfl) (by kernel_rfl) ?_
                repeat (go_big_quiet_step (first | (go_at_call 50; exact HP.out _) | fail))
                refine wpQuiet_nil ?_
                rintro _ ⟨x, rfl⟩
                have HZ := Hid.mk (HC.out x)
                clear HC HIN HX0 HP HQ HRB d0 d1 d2 hne
                go_wp2_with fail
                go_roundg (m + 1 - (m + 1))
                case measure => have := HKK.out; omega
                case rel => exact ⟨m + 1, by omega, by omega, rfl, by go_num, Hid.mk (fun m' h1 h2 => by
                    by_cases h : m' = m
                    · rw [h, HPD.out]; rfl
                    · exact HJ.out m' h1 (by omega)), HZ⟩
              | true =>
                rw [hv0] at HP HPD
                clear hv0
                cases hv1 : endsB (rev e1) (u.take i) with
                | false =>
                  rw [hv1] at HQ HPD
                  clear hv1
                  go_upto_region 7 with fail
                  refine wp_region_cls W x0 HX0.out (by kernel_rfl) (by kernel_rfl) ?_
                  repeat (go_big_quiet_step (first | (go_at_call 50; exact HP.out _) | (go_at_call 181; exact HQ.out _) | fail))
                  refine wpQuiet_nil ?_
                  rintro _ ⟨x, rfl⟩
                  have HZ := Hid.mk (HC.out x)
                  clear HC HIN HX0 HP HQ HRB d0 d1 d2 hne
                  go_wp2_with fail
                  go_ret
                  exact ⟨ret_bool (HNO.out (by rw [HPD.out]; rfl)).symm, HZ.out.1, HZ.out.2.1, HZ.out.2.2⟩
                | true =>
                  rw [hv1] at HQ HPD
                  clear hv1
                  cases hv2 : beginsB (rev e2) (u.drop m) with
                  | false =>
                    rw [hv2] at HRB HPD
                    clear hv2
                    go_upto_region 7 with fail
                    refine wp_region_cls W x0 HX0.out (by kernel_rfl) (by kernel_rfl) ?_
                    repeat (go_big_quiet_step (first | (go_at_call 50; exact HP.out _) | (go_at_call 181; exact HQ.out _) | (go_at_call 182; exact HRB.out _) | fail))
                    refine wpQuiet_nil ?_
                    rintro _ ⟨x, rfl⟩
                    have HZ := Hid.mk (HC.out x)
                    clear HC HIN HX0 HP HQ HRB d0 d1 d2 hne
                    go_wp2_with fail
                    go_ret
                    exact ⟨ret_bool (HNO.out (by rw [HPD.out]; rfl)).symm, HZ.out.1, HZ.out.2.1, HZ.out.2.2⟩
                  | true =>
                    rw [hv2] at HRB HPD
                    clear hv2
                    go_upto_region 7 with fail
                    refine wp_region_cls W x0 HX0.out (by kernel_rfl) (by kernel_rfl) ?_
                    repeat (go_big_quiet_step (first | (go_at_call 50; exact HP.out _) | (go_at_call 181; exact HQ.out _) | (go_at_call 182; exact HRB.out _) | fail))
                    refine wpQuiet_nil ?_
                    rintro _ ⟨x, rfl⟩
                    have HZ := Hid.mk (HC.out x)
                    clear HC HIN HX0 HP HQ HRB d0 d1 d2 hne
                    go_wp2_with fail
                    go_roundg (m + 1 - (m + 1))
                    case measure => have := HKK.out; omega
                    case rel => exact ⟨m + 1, by omega, by omega, rfl, by go_num, Hid.mk (fun m' h1 h2 => by
                        by_cases h : m' = m
                        · rw [h, HPD.out]; rfl
                        · exact HJ.out m' h1 (by omega)), HZ⟩
            · have g1 : ¬ N = m := by omega
              have g2 : ¬ (m : Int) = (N : Int) := by omega
              have g3 : ¬ (N : Int) - (m : Int) = 0 := by omega
              have g4 : ¬ (N : Int) = (m : Int) := by omega
              have g5 : (m : Int) < (N : Int) := by omega
              have g6 : ¬ N - m = 0 := by omega
              obtain ⟨τ, W, x0, hx0, hC, hin⟩ := class_of (fun w' => Mem w' M ∧ AsR w' M ga gm gi n cap V ∧ Kp [gm] w w') (w := wr.drew) ⟨HY.out.1.drew, HY.out.2.1.kp ((Kp.refl [] _).drew) (by simp) (by simp), HY.out.2.2.drew⟩
              have hne : Nonempty τ := ⟨x0⟩
              have HC := Hid.mk hC
              have HIN := Hid.mk hin
              have HX0 := Hid.mk hx0
              clear hC hin hx0
              have d0 : ∀ x, (W x).cell? ⟨bk, ok, none⟩ = some (.int .i64 (k0 : Nat)) := fun x => (HC.out x).1.cell HCK.out.1
              have d1 : ∀ x, (W x).cell? ⟨bk, ok + 1, none⟩ = some (.int .i64 (k1 : Nat)) := fun x => (HC.out x).1.cell HCK.out.2.1
              have d2 : ∀ x, (W x).cell? ⟨bk, ok + 2, none⟩ = some (.int .i64 (k2 : Nat)) := fun x => (HC.out x).1.cell HCK.out.2.2
              have HP : Hid (∀ x, Calls Tryz.prog 50 #[.pointer (some ⟨ga, 0, none⟩), .int .i64 (k0 : Nat), .slice (some ⟨b, o + i, none⟩) (m - i) (m - i)] (W x) (fun e w' => e = .returned (.bool (rev e0 (part u i m))) ∧ ∃ x, w' = W x)) := Hid.mk (fun x => (HA0.out i m (W x) (by omega) (by omega) (HC.out x).1 (HC.out x).2.1).mono (by rintro e w5 ⟨rfl, hM5, hA5, hk5⟩; exact ⟨rfl, HIN.out _ ⟨hM5, hA5, (HC.out x).2.2.trans hk5⟩⟩))
              have HQ : Hid (∀ x, Calls Tryz.prog 181 #[.pointer (some ⟨ga, 0, none⟩), .int .i64 (k1 : Nat), .slice (some ⟨b, o, none⟩) i i] (W x) (fun e w' => e = .returned (.bool (endsB (rev e1) (u.take i))) ∧ ∃ x, w' = W x)) := Hid.mk (fun x => (HA1.out i (W x) (by omega) (HC.out x).1 (HC.out x).2.1).mono (by rintro e w5 ⟨rfl, hM5, hA5, hk5⟩; exact ⟨rfl, HIN.out _ ⟨hM5, hA5, (HC.out x).2.2.trans hk5⟩⟩))
              have HRB : Hid (∀ x, Calls Tryz.prog 182 #[.pointer (some ⟨ga, 0, none⟩), .int .i64 (k2 : Nat), .slice (some ⟨b, o + m, none⟩) (N - m) (N - m)] (W x) (fun e w' => e = .returned (.bool (beginsB (rev e2) (u.drop m))) ∧ ∃ x, w' = W x)) := Hid.mk (fun x => (HA2.out m (W x) (by omega) (HC.out x).1 (HC.out x).2.1).mono (by rintro e w5 ⟨rfl, hM5, hA5, hk5⟩; exact ⟨rfl, HIN.out _ ⟨hM5, hA5, (HC.out x).2.2.trans hk5⟩⟩))
              have HNO := Hid.mk (onlyR_no (p := rev e0) (q := rev e1) (r := rev e2) (u := u) (i := i) (m := m) (by omega) (by have := HN.out; omega))
              have HPD : Hid (onlyPR (rev e0) (rev e1) (rev e2) u i m = (rev e0 (part u i m) && (!endsB (rev e1) (u.take i) || !beginsB (rev e2) (u.drop m)))) := Hid.mk rfl
              cases hv0 : rev e0 (part u i m) with
              | false =>
                rw [hv0] at HP HPD
                clear hv0
                go_upto_region 7 with fail
                refine wp_region_cls W x0 HX0.out (by kernel_rfl) (by kernel_rfl) ?_
                repeat (go_big_quiet_step (first | (go_at_call 50; exact HP.out _) | fail))
                refine wpQuiet_nil ?_
                rintro _ ⟨x, rfl⟩
                have HZ := Hid.mk (HC.out x)
                clear HC HIN HX0 HP HQ HRB d0 d1 d2 hne
                go_wp2_with fail
                go_roundg (N + 1 - (m + 1))
                case measure => have := HKK.out; omega
                case rel => exact ⟨m + 1, by omega, by omega, rfl, by go_num, Hid.mk (fun m' h1 h2 => by
                    by_cases h : m' = m
                    · rw [h, HPD.out]; rfl
                    · exact HJ.out m' h1 (by omega)), HZ⟩
              | true =>
                rw [hv0] at HP HPD
                clear hv0
                cases hv1 : endsB (rev e1) (u.take i) with
                | false =>
                  rw [hv1] at HQ HPD
                  clear hv1
                  go_upto_region 7 with fail
                  refine wp_region_cls W x0 HX0.out (by kernel_rfl) (by kernel_rfl) ?_
                  repeat (go_big_quiet_step (first | (go_at_call 50; exact HP.out _) | (go_at_call 181; exact HQ.out _) | fail))
                  refine wpQuiet_nil ?_
                  rintro _ ⟨x, rfl⟩
                  have HZ := Hid.mk (HC.out x)
                  clear HC HIN HX0 HP HQ HRB d0 d1 d2 hne
                  go_wp2_with fail
                  go_ret
                  exact ⟨ret_bool (HNO.out (by rw [HPD.out]; rfl)).symm, HZ.out.1, HZ.out.2.1, HZ.out.2.2⟩
                | true =>
                  rw [hv1] at HQ HPD
                  clear hv1
                  cases hv2 : beginsB (rev e2) (u.drop m) with
                  | false =>
                    rw [hv2] at HRB HPD
                    clear hv2
                    go_upto_region 7 with fail
                    refine wp_region_cls W x0 HX0.out (by kernel_rfl) (by kernel_rfl) ?_
                    repeat (go_big_quiet_step (first | (go_at_call 50; exact HP.out _) | (go_at_call 181; exact HQ.out _) | (go_at_call 182; exact HRB.out _) | fail))
                    refine wpQuiet_nil ?_
                    rintro _ ⟨x, rfl⟩
                    have HZ := Hid.mk (HC.out x)
                    clear HC HIN HX0 HP HQ HRB d0 d1 d2 hne
                    go_wp2_with fail
                    go_ret
                    exact ⟨ret_bool (HNO.out (by rw [HPD.out]; rfl)).symm, HZ.out.1, HZ.out.2.1, HZ.out.2.2⟩
                  | true =>
                    rw [hv2] at HRB HPD
                    clear hv2
                    go_upto_region 7 with fail
                    refine wp_region_cls W x0 HX0.out (by kernel_rfl) (by kernel_rfl) ?_
                    repeat (go_big_quiet_step (first | (go_at_call 50; exact HP.out _) | (go_at_call 181; exact HQ.out _) | (go_at_call 182; exact HRB.out _) | fail))
                    refine wpQuiet_nil ?_
                    rintro _ ⟨x, rfl⟩
                    have HZ := Hid.mk (HC.out x)
                    clear HC HIN HX0 HP HQ HRB d0 d1 d2 hne
                    go_wp2_with fail
                    go_roundg (N + 1 - (m + 1))
                    case measure => have := HKK.out; omega
                    case rel => exact ⟨m + 1, by omega, by omega, rfl, by go_num, Hid.mk (fun m' h1 h2 => by
                        by_cases h : m' = m
                        · rw [h, HPD.out]; rfl
                        · exact HJ.out m' h1 (by omega)), HZ⟩
        · obtain rfl : m = N + 1 := by omega
          have hmn' : ¬ (((N + 1 : Nat) : Int) ≤ (N : Int)) := by omega
          go_wp2_with fail
          go_roundg (N + 1 - (i + 1))
          case measure => have := HKI.out; omega
          case rel => exact ⟨i + 1, by omega, rfl, by go_num, Hid.mk (fun i' m h1 h2 h3 => by
            by_cases h : i' = i
            · rw [h]; exact HJ.out m (by omega) (by omega)
            · exact HI.out i' m (by omega) h2 h3), HY⟩
    · obtain rfl : i = N + 1 := by omega
      have hlt' : ¬ (((N + 1 : Nat) : Int) ≤ (N : Int)) := by omega
      have HT : Hid (onlyB (rev e0) (rev e1) (rev e2) u = true) := Hid.mk (onlyR_yes (fun i m h1 h2 => HI.out i m (by have := HN.out; omega) h1 (by have := HN.out; omega)))
      go_wp2_with fail
      go_ret
      exact ⟨ret_bool HT.out.symm, HW.out⟩
end Go.Proofs.YtgdnhlckodhhgaaGreatDoor
