/-
  Plain Lean: what the law's heavy counts.
-/
import Derived.Test.YtgdnhlckodhhgaaJQ13
namespace Go.Proofs.Ytgdnhlckodhhgaa
mutual
def hv : E → Nat | .mk _ s l => s.length + hvl l l.length
def hvl : List E → Nat → Nat
  | [], n => n
  | e :: l, n => if n < 16384 then hvl l (n + hv e) else n
end
theorem hv_eq (e : E) : hv e = e.s.length + hvl e.l e.l.length := by cases e; simp [hv, E.s, E.l]
mutual
theorem hv_mass : ∀ e : E, hv e + 1 ≤ e.mass
  | .mk _ s l => by simp only [hv, E.mass]; have := hvl_mass l l.length; omega
theorem hvl_mass : ∀ (l : List E) (n : Nat), hvl l n + l.length ≤ n + masses l
  | [], n => by simp [hvl, masses]
  | e :: l, n => by
    simp only [hvl, masses, List.length_cons]
    have h1 := hv_mass e
    split
    · have := hvl_mass l (n + hv e); omega
    · have := lmass l; omega
theorem lmass : ∀ l : List E, l.length ≤ masses l
  | [] => by simp [masses]
  | e :: l => by simp only [masses, List.length_cons]; have := hv_mass e; have := lmass l; omega
end
theorem hvl_stop {l : List E} {n : Nat} (h : ¬ n < 16384) : hvl l n = n := by cases l <;> simp [hvl, h]
theorem hvl_step {l : List E} {j n : Nat} (hj : j < l.length) (h : n < 16384) : hvl (l.drop j) n = hvl (l.drop (j + 1)) (n + hv l[j]) := by
  rw [List.drop_eq_getElem_cons hj]; simp [hvl, h]
theorem masses_drop {l : List E} {j : Nat} (hj : j < l.length) : masses (l.drop j) = l[j].mass + masses (l.drop (j + 1)) := by
  rw [List.drop_eq_getElem_cons hj]; simp [masses]
end Go.Proofs.Ytgdnhlckodhhgaa
