/-
  Plain Lean: how many nodes and bytes an expression holds.
-/
import Derived.Test.YtgdnhlckodhhgaaJC
namespace Go.Proofs.Ytgdnhlckodhhgaa
mutual
def E.mass : E → Nat | .mk _ s l => 1 + s.length + masses l
def masses : List E → Nat | [] => 0 | e :: l => e.mass + masses l
end
theorem E.mass_eq (e : E) : e.mass = 1 + e.s.length + masses e.l := by cases e; simp [E.mass, E.s, E.l]
mutual
theorem size_mass : ∀ e : E, e.size ≤ e.mass
  | .mk _ s l => by simp only [E.size, E.mass]; have := sizes_masses l; omega
theorem sizes_masses : ∀ l : List E, sizes l ≤ masses l
  | [] => by simp [sizes, masses]
  | e :: l => by simp only [sizes, masses]; have := size_mass e; have := sizes_masses l; omega
end
mutual
theorem wide_mass : ∀ e : E, e.wide ≤ e.mass
  | .mk _ s l => by simp only [E.wide, E.mass]; have := wides_masses l; omega
theorem wides_masses : ∀ l : List E, wides l ≤ masses l
  | [] => by simp [wides, masses]
  | e :: l => by simp only [wides, masses]; have := wide_mass e; have := wides_masses l; omega
end
theorem mass_mem {l : List E} {e : E} (h : e ∈ l) : e.mass ≤ masses l := by
  induction l with
  | nil => cases h
  | cons a l ih =>
    rcases List.mem_cons.1 h with rfl | h
    · simp [masses]
    · have := ih h; simp [masses]; omega
end Go.Proofs.Ytgdnhlckodhhgaa
