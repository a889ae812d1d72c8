/-
  What the law ExprSimple wants of what is simplified (plain).
-/
import Derived.Test.YtgdnhlckodhhgaaGreatDoorJVQ
import Derived.Test.YtgdnhlckodhhgaaGreatDoorJVP
namespace Go.Proofs.YtgdnhlckodhhgaaGreatDoor
open Go.RowKit
set_option linter.unusedVariables false
set_option linter.unusedSimpArgs false
theorem RedOk.verdict {a s : E} (h : RedOk a s) (hv : verdict a = 0) : verdict s = 0 := by
  obtain ⟨h1, h2, _⟩ := verdict_good hv
  have := h.size
  have := h.nest
  exact verdict_ok (by omega) (by omega) h.right
theorem RedOk.over {a s : E} {ss : List Bs} (h : RedOk a s) (ho : a.syms.all (fun x => ss.any (· == x)) = true) : s.syms.all (fun x => ss.any (· == x)) = true :=
  List.all_eq_true.2 fun x hx => List.all_eq_true.1 ho x (h.syms x hx)
theorem okw_of {ss ws : List Bs} {L : Nat} (ha : aErr ss = 0) (hi : ws.all (fun x => ss.any (· == x)) = true) (hl : ws.length ≤ L) : OkW L ws := by
  refine ⟨hl, fun x hx => ?_⟩
  have h1 : ss.all rsym = true := by
    unfold aErr at ha
    split at ha
    · cases ha
    · split at ha
      · rename_i h; exact h.1
      · cases ha
  have h2 := List.all_eq_true.1 hi x hx
  obtain ⟨y, hy, he⟩ := List.any_eq_true.1 h2
  rw [beq_iff_eq] at he
  exact he ▸ List.all_eq_true.1 h1 y hy
theorem given_zero {e : E} {ss : List Bs} (h : givenR e ss = 0) : verdict e = 0 ∧ aErr ss = 0 := by
  unfold givenR at h
  split at h
  · rename_i h1; exact absurd h h1
  · rename_i h1; exact ⟨by simpa using h1, h⟩
end Go.Proofs.YtgdnhlckodhhgaaGreatDoor

/-
  Right expressions are not wide (plain).
-/
namespace Go.Proofs.YtgdnhlckodhhgaaGreatDoor
open Go.RowKit
set_option linter.unusedVariables false
theorem fits_len {op : Int} {s : Bs} {n : Nat} (h : fits op s n = true) : s.length ≤ 16 := by
  unfold fits at h
  rw [Bool.and_eq_true] at h
  have h2 := h.2
  by_cases h0 : op = 0
  · rw [if_pos h0, beq_iff_eq] at h2
    exact rsym_len ((wordErr_zero h2).1.2 s (by simp))
  · rw [if_neg h0] at h2
    have : s = [] := by simpa using h2
    rw [this]; simp
theorem wide_right (n : Nat) : ∀ e : E, e.size ≤ n → e.right = true → e.wide ≤ 16 := by
  induction n with
  | zero => intro e h; have := size_pos e; omega
  | succ n ih =>
    intro e he hr
    have hsz := E.size_eq e
    rw [E.right_eq, Bool.and_eq_true] at hr
    rw [E.wide_eq]
    have h2 : ∀ l : List E, (∀ x ∈ l, x.wide ≤ 16) → wides l ≤ 16 := by
      intro l
      induction l with
      | nil => intro _; simp [wides]
      | cons a l ih2 =>
        intro h
        rw [wides]
        have h1 := h a (by simp)
        have h3 := ih2 (fun x hx => h x (by simp [hx]))
        omega
    have h3 := h2 e.l (fun x hx => ih x (by have := size_mem hx; omega) (List.all_eq_true.1 hr.2 x hx))
    have h4 := fits_len hr.1
    omega
end Go.Proofs.YtgdnhlckodhhgaaGreatDoor
