/-
  An argument that is a list of texts: what it is; how much is in it.
-/
import Derived.Test.YtgdnhlckodhhgaaGreatDoorJR
import Derived.Test.YtgdnhlckodhhgaaGreatDoorJVO
import Derived.Test.YtgdnhlckodhhgaaGreatDoorJVE
namespace Go.Proofs.YtgdnhlckodhhgaaGreatDoor
open Go.RowKit Go.ChangeShapes Go.WideShapes Go.ChangeAt
set_option linter.unusedVariables false
theorem Tryz.readS : Tryz.prog.readableRec 25 = true := by kernel_rfl
theorem Tryz.rowS : 25 < Tryz.prog.types.size := of_decide_eq_true (by kernel_rfl)
theorem Tryz.cellsS : Tryz.prog.cellsOf 9 = 1 := by kernel_rfl
set_option maxRecDepth 100000 in
theorem open_words {H : Type} {enc : TypeId × Value → H} {w : World} {base b0 : Nat} {sp : Nat → Bool} {hd : Bool} {r : Reach} {v : Value} {d : DataW H} {p : List MemPlace} (hv : Value.okWide Tryz.prog w r b0 25 v) (h : DataW.Trod enc Tryz.prog w base sp hd 25 v d p) :
    ∃ (ws : List Bs) (A : Option Addr) (c : Nat), v = .slice A ws.length c ∧ ws.length ≤ c ∧ WvM (memOf w) A ws ∧ wt ws ≤ Rows.uptoBulk d := by
  obtain ⟨fuel, h⟩ := h
  obtain ⟨A, n, c, rfl⟩ := okWide_slice Tryz.underlying25 hv
  rcases Go.Deep.open_strs Tryz.underlying25 Tryz.underlying9 Tryz.cellsS h with ⟨e, e2⟩ | ⟨a, len, cap, m, Sx, e, hb, hlc, hcm, hmm, e2, hcell⟩
  · have e' : Value.slice A n c = .slice none 0 0 := by injection e
    simp only [Value.slice.injEq] at e'
    obtain ⟨rfl, rfl, rfl⟩ := e'
    exact ⟨[], none, 0, rfl, Nat.le_refl _, .inl ⟨rfl, rfl⟩, by simp [wt]⟩
  · have e' : Value.slice A n c = .slice (some a) len cap := by injection e
    simp only [Value.slice.injEq] at e'
    obtain ⟨rfl, rfl, rfl⟩ := e'
    have hlm : n ≤ m := by rw [hmm]; split <;> omega
    have hbulk : wt ((List.range n).map fun i => (Sx i).data.toList) ≤ Rows.uptoBulk d := by
      have hd' : d = (DataW.slice ((List.range n).map fun i => .lit (.string (Sx i).data.toList)) ((List.range (m - n)).map fun j => .lit (.string (Sx (n + j)).data.toList))) := congrArg Prod.fst e2
      rw [hd']
      have key : ∀ l : List Nat, wt (l.map fun i => (Sx i).data.toList) ≤ Rows.uptoBulkAll (H := H) (l.map fun i => .lit (.string (Sx i).data.toList)) := by
        intro l
        induction l with
        | nil => simp [wt, Rows.uptoBulkAll]
        | cons x l ih =>
          simp only [wt, List.map_cons, List.sum_cons, Rows.uptoBulkAll, Rows.uptoBulk] at ih ⊢
          omega
      have := key (List.range n)
      simp only [Rows.uptoBulk]
      omega
    have hsp' : a.spot = none := by
      have hu : Tryz.prog.underlying 25 = _ := Tryz.underlying25
      unfold Value.okWide at hv
      rw [hu] at hv
      have hv : Cell.okWide Tryz.prog w r b0 25 (.slice (some a) n c) := hv
      unfold Cell.okWide at hv
      rw [hu] at hv
      have hv : Cell.ok Tryz.prog w r b0 25 (.slice (some a) n c) := hv
      unfold Cell.ok at hv
      rw [hu] at hv
      exact hv.2.2.2.1
    have ha : a = ⟨a.block, a.off, none⟩ := by
      obtain ⟨b, o, s⟩ := a
      simp only at hsp'
      rw [hsp']
    refine ⟨(List.range n).map fun i => (Sx i).data.toList, some a, c, by simp, by simpa using hlc, .inr ⟨a.block, a.off, by rw [← ha], fun j hj => ?_⟩, hbulk⟩
    rw [memOf_cell]
    have hj' : j < n := by simpa using hj
    have h1 := (hcell j (by omega)).1
    rw [add_flat hsp'] at h1
    rw [h1]
    simp [bs_data]
end Go.Proofs.YtgdnhlckodhhgaaGreatDoor
