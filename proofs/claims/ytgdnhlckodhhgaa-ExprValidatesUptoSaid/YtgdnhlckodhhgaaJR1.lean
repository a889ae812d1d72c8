/-
  An expression that came in: what reads as one lies in memory as one; how large it is.
-/
import Derived.Test.YtgdnhlckodhhgaaRows
import Derived.Test.YtgdnhlckodhhgaaJQ13
import Derived.ChangeArms
import Derived.Deep.Strs
namespace Go.Proofs.Ytgdnhlckodhhgaa
open Go.RowKit Go.ChangeShapes Go.WideShapes Go.ChangeAt
set_option linter.unusedVariables false
/-- All of the memory as it stands. -/
def memOf (w : World) : Heap := fun b => w.heap[b]?
theorem memOf_mem (w : World) : Mem w (memOf w) := fun b o h => h
theorem memOf_cell (w : World) (a : Addr) : cellM (memOf w) a = w.cell? a := rfl
theorem Try.cellsE : Try.prog.cellsOf 25 = 3 := by kernel_rfl
theorem bulk_all {H : Type} (l : List (DataW H)) : Rows.uptoBulkAll l = (l.map Rows.uptoBulk).sum := by
  induction l with
  | nil => simp [Rows.uptoBulkAll]
  | cons x l ih => simp [Rows.uptoBulkAll, ih]
theorem cellsT {w : World} {base : Nat} {a : Addr} {x y z : Value} (h : w.cells? base a 3 = some [x, y, z]) : w.cell? a = some x ∧ w.cell? (a.add 1) = some y ∧ w.cell? (a.add 2) = some z := by
  unfold World.cells? at h
  split at h
  · simp only [List.range, List.range.loop, List.mapM_cons, List.mapM_nil] at h
    cases h0 : w.cell? (a.add 0) with
    | none => simp [h0] at h
    | some u0 =>
      cases h1 : w.cell? (a.add 1) with
      | none => simp [h0, h1] at h
      | some u1 =>
        cases h2 : w.cell? (a.add 2) with
        | none => simp [h0, h1, h2] at h
        | some u2 =>
          simp [h0, h1, h2] at h
          obtain ⟨rfl, rfl, rfl⟩ := h
          exact ⟨h0, rfl, rfl⟩
  · cases h
theorem cell_spot {w : World} {a : Addr} {v : Value} (h : w.cell? a = some v) : a.spot = none := by
  simp only [World.cell?] at h
  split at h
  · cases hs : a.spot with
    | none => rfl
    | some s => simp [hs] at h
  · cases h
theorem add_flat {a : Addr} (h : a.spot = none) (n : Nat) : a.add n = ⟨a.block, a.off + n, none⟩ := by
  obtain ⟨b, o, s⟩ := a
  simp only at h
  subst h
  unfold Addr.add
  split
  · rename_i h; subst h; rfl
  · rfl
set_option maxRecDepth 100000 in
theorem open_expr {H : Type} {enc : TypeId × Value → H} {w : World} {base : Nat} {sp : Nat → Bool} {hd : Bool} : ∀ (fuel : Nat) (cs : List Value) (x : DataW H × List MemPlace), DataW.trod enc Try.prog w base sp hd fuel 25 cs = some x →
    ∃ e A c, cs = [.int .i64 e.op, .string (bs e.s), .slice A e.l.length c] ∧ ExV (memOf w) e A c ∧ e.mass ≤ Rows.uptoBulk x.1 := by
  intro fuel
  induction fuel using Nat.strongRecOn with
  | _ fuel ih =>
    intro cs x h
    obtain ⟨xs, n, rfl, rfl, hlen, hsz, hf⟩ := DataW.trod_struct Try.underlying25 h
    rw [Try.cellsE] at hlen
    match cs, hlen, xs, hsz with
    | [v0, v1, v2], _, [y0, y1, y2], _ =>
    have h0 : DataW.trod enc Try.prog w base sp hd n 3 [v0] = some y0 := hf 0 _ rfl
    have h1 : DataW.trod enc Try.prog w base sp hd n 9 [v1] = some y1 := hf 1 _ rfl
    have h2 : DataW.trod enc Try.prog w base sp hd n 23 [v2] = some y2 := hf 2 _ rfl
    obtain ⟨op, e0, rfl, _⟩ := DataW.trod_int Try.underlying3 h0
    obtain ⟨s, e1, rfl, hs⟩ := DataW.trod_string Try.underlying9 h1
    injection e0 with e0; subst e0
    injection e1 with e1; subst e1
    rcases DataW.trod_slice Try.underlying23 h2 with ⟨e2, rfl⟩ | ⟨a, len, cap, elems, rest, m, rfl, e2, rfl, hb, hlc, hcm, hel, hrow, _⟩
    · injection e2 with e2; subst e2
      refine ⟨.mk op s.data.toList [], none, 0, by simp [E.op, E.s, E.l, bs_data], ExV.leaf _ _ _ _ _, ?_⟩
      simp [E.mass, masses, Rows.uptoBulk, Rows.uptoBulkAll]
      omega
    · injection e2 with e2; subst e2
      rw [Try.cellsE] at hrow
      have key : ∀ i, (hi : i < elems.length) → ∃ e A c, (w.cells? base (a.add (i * 3)) 3) = some [.int .i64 e.op, .string (bs e.s), .slice A e.l.length c] ∧ ExV (memOf w) e A c ∧ e.mass ≤ Rows.uptoBulk (elems[i]).1 := by
        intro i hi
        have hr := hrow i (by omega)
        rw [List.getElem?_eq_getElem hi] at hr
        cases hc : w.cells? base (a.add (i * 3)) 3 with
        | none => rw [hc] at hr; cases hr
        | some cs3 =>
          rw [hc] at hr
          obtain ⟨e, A, c, rfl, hx, hm⟩ := ih m (by omega) cs3 _ hr
          exact ⟨e, A, c, rfl, hx, hm⟩
      have hall : ∃ ps : List (E × Option Addr × Nat), ps.length = elems.length ∧ ∀ i, (hi : i < elems.length) → (hp : i < ps.length) → (w.cells? base (a.add (i * 3)) 3) = some [.int .i64 ps[i].1.op, .string (bs ps[i].1.s), .slice ps[i].2.1 ps[i].1.l.length ps[i].2.2] ∧ ExV (memOf w) ps[i].1 ps[i].2.1 ps[i].2.2 ∧ ps[i].1.mass ≤ Rows.uptoBulk (elems[i]).1 := by
        clear hrow hel hlc hcm h0 h1 h2 hf h ih
        have : ∀ n, n ≤ elems.length → ∃ ps : List (E × Option Addr × Nat), ps.length = n ∧ ∀ i, (hi : i < elems.length) → (hp : i < ps.length) → (w.cells? base (a.add (i * 3)) 3) = some [.int .i64 ps[i].1.op, .string (bs ps[i].1.s), .slice ps[i].2.1 ps[i].1.l.length ps[i].2.2] ∧ ExV (memOf w) ps[i].1 ps[i].2.1 ps[i].2.2 ∧ ps[i].1.mass ≤ Rows.uptoBulk (elems[i]).1 := by
          intro n
          induction n with
          | zero => intro _; exact ⟨[], rfl, fun i hi hp => by simp at hp⟩
          | succ n ihn =>
            intro hn
            obtain ⟨ps, hps, hq⟩ := ihn (by omega)
            obtain ⟨e, A, c, k1, k2, k3⟩ := key n (by omega)
            refine ⟨ps ++ [(e, A, c)], by simp [hps], fun i hi hp => ?_⟩
            by_cases hin : i < n
            · rw [List.getElem_append_left (by omega)]
              exact hq i hi (by omega)
            · have hin : i = n := by simp [hps] at hp; omega
              subst hin
              rw [List.getElem_append_right (by omega)]
              simp only [hps, Nat.sub_self, List.getElem_cons_zero]
              exact ⟨k1, k2, k3⟩
        exact this _ (Nat.le_refl _)
      obtain ⟨ps, hpl, hps⟩ := hall
      have hmass : masses (ps.map (·.1)) ≤ Rows.uptoBulkAll (elems.map (·.1)) := by
        have : ∀ (ps : List (E × Option Addr × Nat)) (es : List (DataW H × List MemPlace)), ps.length = es.length → (∀ i, (hi : i < es.length) → (hp : i < ps.length) → ps[i].1.mass ≤ Rows.uptoBulk (es[i]).1) → masses (ps.map (·.1)) ≤ Rows.uptoBulkAll (es.map (·.1)) := by
          intro ps
          induction ps with
          | nil => intro es h1 _; cases es with
            | nil => simp [masses, Rows.uptoBulkAll]
            | cons _ _ => simp at h1
          | cons p ps ihp => intro es h1 h2; cases es with
            | nil => simp at h1
            | cons y es =>
              simp only [List.map_cons, masses, Rows.uptoBulkAll]
              have a0 := h2 0 (by simp) (by simp)
              have a1 := ihp es (by simpa using h1) (fun i hi hp => h2 (i + 1) (Nat.succ_lt_succ hi) (Nat.succ_lt_succ hp))
              simp at a0
              omega
        exact this ps elems hpl (fun i hi hp => (hps i hi hp).2.2)
      have hcell : ∀ j, (h : j < ps.length) → ∃ b o, (some a : Option Addr) = some ⟨b, o, none⟩ ∧ w.cell? ⟨b, o + j * 3, none⟩ = some (.int .i64 ps[j].1.op) ∧ w.cell? ⟨b, o + j * 3 + 1, none⟩ = some (.string (bs ps[j].1.s)) ∧ w.cell? ⟨b, o + j * 3 + 2, none⟩ = some (.slice ps[j].2.1 ps[j].1.l.length ps[j].2.2) := by
        intro j hj
        have hz := (cellsT (hps 0 (by omega) (by omega)).1).1
        have hsp : a.spot = none := by
          have := cell_spot hz
          simpa [Addr.add] using this
        obtain ⟨c0, c1, c2⟩ := cellsT (hps j (by omega) hj).1
        rw [add_flat hsp] at c0 c1 c2
        rw [add_flat rfl] at c1 c2
        obtain ⟨b, o, s⟩ := a
        simp only at hsp
        subst hsp
        exact ⟨b, o, rfl, c0, c1, c2⟩
      have hlen2 : (ps.map (·.1)).length = len := by simp [hpl, hel]
      refine ⟨.mk op s.data.toList (ps.map (·.1)), some a, cap, by simp [E.op, E.s, E.l, bs_data, hpl, hel], ?_, ?_⟩
      · refine ExM.mk op s.data.toList (ps.map (·.1)) (some a) cap (fun j => if h : j < ps.length then .slice ps[j].2.1 ps[j].1.l.length ps[j].2.2 else undef) (by rw [hlen2]; exact hlc) (fun j hj => ?_) (fun j hj => ?_)
        · have hj' : j < ps.length := by simpa using hj
          obtain ⟨b, o, k1, k2, k3, k4⟩ := hcell j hj'
          refine ⟨b, o, k1, ?_, ?_, ?_⟩
          · rw [memOf_cell]; simpa using k2
          · rw [memOf_cell]; simpa using k3
          · rw [memOf_cell, dif_pos hj']; exact k4
        · have hj' : j < ps.length := by simpa using hj
          rw [dif_pos hj']
          have := (hps j (by omega) hj').2.1
          simpa [ExV] using this
      · simp only [E.mass, List.map_cons, List.map_nil, Rows.uptoBulk, Rows.uptoBulkAll]
        omega
end Go.Proofs.Ytgdnhlckodhhgaa
