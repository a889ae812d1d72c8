/-
  An argument that is an expression: what it is, and that it reads behind the call as before.
-/
import Derived.Test.YtgdnhlckodhhgaaJR1
import Derived.Carry
import Derived.OpenShut
import Derived.ChangeOld
import Derived.Below
namespace Go.Proofs.Ytgdnhlckodhhgaa
open Go.RowKit Go.ChangeShapes Go.WideShapes Go.ChangeAt
set_option linter.unusedVariables false
theorem Try.laidOut : laidOutB Try.prog = true := by kernel_rfl
theorem Try.readE : Try.prog.readableRec 25 = true := by kernel_rfl
theorem Try.rowE : 25 < Try.prog.types.size := of_decide_eq_true (by kernel_rfl)
set_option maxRecDepth 100000 in
theorem open_arg {H : Type} {enc : TypeId × Value → H} {w : World} {base b0 : Nat} {sp : Nat → Bool} {hd : Bool} {r : Reach} {v : Value} {d : DataW H} {p : List MemPlace} (hv : Value.okWide Try.prog w r b0 25 v) (h : DataW.Trod enc Try.prog w base sp hd 25 v d p) :
    ∃ e A c, v = .agg #[.int .i64 e.op, .string (bs e.s), .slice A e.l.length c] ∧ ExV (memOf w) e A c ∧ e.mass ≤ Rows.uptoBulk d := by
  obtain ⟨fuel, h⟩ := h
  obtain ⟨e, A, c, h1, h2, h3⟩ := open_expr fuel _ _ h
  have hu : Try.prog.underlying 25 = _ := Try.underlying25
  have hv' : ∃ cs, v = .agg cs := by
    unfold Value.okWide at hv
    rw [hu] at hv
    obtain ⟨cs, hc, _⟩ := hv
    exact ⟨cs, hc⟩
  obtain ⟨cs, rfl⟩ := hv'
  have h4 : cs.toList = [.int .i64 e.op, .string (bs e.s), .slice A e.l.length c] := h1
  have h5 : cs = #[.int .i64 e.op, .string (bs e.s), .slice A e.l.length c] := Array.toList_inj.1 h4
  exact ⟨e, A, c, by rw [h5], h2, h3⟩
theorem bulk_part {H : Type} {d : DataW H} {l : List (DataW H)} (h : d ∈ l) : Rows.uptoBulk d ≤ Rows.uptoBulkAll l := by
  induction l with
  | nil => cases h
  | cons x r ih =>
    simp only [Rows.uptoBulkAll]
    cases List.mem_cons.1 h with
    | inl e => subst e; omega
    | inr e => have := ih e; omega
set_option maxRecDepth 100000 in
theorem bulk_bound {H : Type} {l : List (DataW H)} (hk : Rows.uptoSmall H l = true) {d : DataW H} (h : d ∈ l) : Rows.uptoBulk d ≤ 1048576 :=
  Nat.le_trans (bulk_part h) (of_decide_eq_true hk)
end Go.Proofs.Ytgdnhlckodhhgaa
