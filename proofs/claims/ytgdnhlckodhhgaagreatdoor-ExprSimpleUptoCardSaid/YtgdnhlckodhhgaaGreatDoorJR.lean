/-
  Plain Lean: how many nodes and bytes an expression holds.
-/
import Derived.Test.YtgdnhlckodhhgaaGreatDoorJC
import Derived.Test.YtgdnhlckodhhgaaGreatDoorRows
import Derived.ChangeArms
import Derived.Deep.Strs
import Derived.Carry
import Derived.OpenShut
import Derived.ChangeOld
import Derived.Below
namespace Go.Proofs.YtgdnhlckodhhgaaGreatDoor
mutual
def E.mass : E → Nat | .mk _ s l => 1 + s.length + masses l
def masses : List E → Nat | [] => 0 | e :: l => e.mass + masses l
end
theorem E.mass_eq (e : E) : e.mass = 1 + e.s.length + masses e.l := by cases e; simp [E.mass, E.s, E.l]
mutual
theorem size_mass : ∀ e : E, e.size ≤ e.mass
  | .mk _ s l => by simp only [E.size, E.mass]; have := sizes_masses l; omega
theorem sizes_masses : ∀ l : List E, sizes l ≤ masses l
  | [] => by simp [sizes, masses]
  | e :: l => by simp only [sizes, masses]; have := size_mass e; have := sizes_masses l; omega
end
mutual
theorem wide_mass : ∀ e : E, e.wide ≤ e.mass
  | .mk _ s l => by simp only [E.wide, E.mass]; have := wides_masses l; omega
theorem wides_masses : ∀ l : List E, wides l ≤ masses l
  | [] => by simp [wides, masses]
  | e :: l => by simp only [wides, masses]; have := wide_mass e; have := wides_masses l; omega
end
theorem mass_mem {l : List E} {e : E} (h : e ∈ l) : e.mass ≤ masses l := by
  induction l with
  | nil => cases h
  | cons a l ih =>
    rcases List.mem_cons.1 h with rfl | h
    · simp [masses]
    · have := ih h; simp [masses]; omega
end Go.Proofs.YtgdnhlckodhhgaaGreatDoor

/-
  Plain Lean: what the law's heavy counts.
-/
namespace Go.Proofs.YtgdnhlckodhhgaaGreatDoor
mutual
def hv : E → Nat | .mk _ s l => s.length + hvl l l.length
def hvl : List E → Nat → Nat
  | [], n => n
  | e :: l, n => if n < 16384 then hvl l (n + hv e) else n
end
theorem hv_eq (e : E) : hv e = e.s.length + hvl e.l e.l.length := by cases e; simp [hv, E.s, E.l]
mutual
theorem hv_mass : ∀ e : E, hv e + 1 ≤ e.mass
  | .mk _ s l => by simp only [hv, E.mass]; have := hvl_mass l l.length; omega
theorem hvl_mass : ∀ (l : List E) (n : Nat), hvl l n + l.length ≤ n + masses l
  | [], n => by simp [hvl, masses]
  | e :: l, n => by
    simp only [hvl, masses, List.length_cons]
    have h1 := hv_mass e
    split
    · have := hvl_mass l (n + hv e); omega
    · have := lmass l; omega
theorem lmass : ∀ l : List E, l.length ≤ masses l
  | [] => by simp [masses]
  | e :: l => by simp only [masses, List.length_cons]; have := hv_mass e; have := lmass l; omega
end
theorem hvl_stop {l : List E} {n : Nat} (h : ¬ n < 16384) : hvl l n = n := by cases l <;> simp [hvl, h]
theorem hvl_step {l : List E} {j n : Nat} (hj : j < l.length) (h : n < 16384) : hvl (l.drop j) n = hvl (l.drop (j + 1)) (n + hv l[j]) := by
  rw [List.drop_eq_getElem_cons hj]; simp [hvl, h]
theorem masses_drop {l : List E} {j : Nat} (hj : j < l.length) : masses (l.drop j) = l[j].mass + masses (l.drop (j + 1)) := by
  rw [List.drop_eq_getElem_cons hj]; simp [masses]
end Go.Proofs.YtgdnhlckodhhgaaGreatDoor

/-
  An expression that came in: what reads as one lies in memory as one; how large it is.
-/
namespace Go.Proofs.YtgdnhlckodhhgaaGreatDoor
open Go.RowKit Go.ChangeShapes Go.WideShapes Go.ChangeAt
set_option linter.unusedVariables false
/-- All of the memory as it stands. -/
def memOf (w : World) : Heap := fun b => w.heap[b]?
theorem memOf_mem (w : World) : Mem w (memOf w) := fun b o h => h
theorem memOf_cell (w : World) (a : Addr) : cellM (memOf w) a = w.cell? a := rfl
theorem Tryz.cellsE : Tryz.prog.cellsOf 24 = 3 := by kernel_rfl
theorem bulk_all {H : Type} (l : List (DataW H)) : Rows.uptoBulkAll l = (l.map Rows.uptoBulk).sum := by
  induction l with
  | nil => simp [Rows.uptoBulkAll]
  | cons x l ih => simp [Rows.uptoBulkAll, ih]
theorem cellsT {w : World} {base : Nat} {a : Addr} {x y z : Value} (h : w.cells? base a 3 = some [x, y, z]) : w.cell? a = some x ∧ w.cell? (a.add 1) = some y ∧ w.cell? (a.add 2) = some z := by
  unfold World.cells? at h
  split at h
  · simp only [List.range, List.range.loop, List.mapM_cons, List.mapM_nil] at h
    cases h0 : w.cell? (a.add 0) with
    | none => simp [h0] at h
    | some u0 =>
      cases h1 : w.cell? (a.add 1) with
      | none => simp [h0, h1] at h
      | some u1 =>
        cases h2 : w.cell? (a.add 2) with
        | none => simp [h0, h1, h2] at h
        | some u2 =>
          simp [h0, h1, h2] at h
          obtain ⟨rfl, rfl, rfl⟩ := h
          exact ⟨h0, rfl, rfl⟩
  · cases h
theorem cell_spot {w : World} {a : Addr} {v : Value} (h : w.cell? a = some v) : a.spot = none := by
  simp only [World.cell?] at h
  split at h
  · cases hs : a.spot with
    | none => rfl
    | some s => simp [hs] at h
  · cases h
theorem add_flat {a : Addr} (h : a.spot = none) (n : Nat) : a.add n = ⟨a.block, a.off + n, none⟩ := by
  obtain ⟨b, o, s⟩ := a
  simp only at h
  subst h
  unfold Addr.add
  split
  · rename_i h; subst h; rfl
  · rfl
set_option maxRecDepth 100000 in
theorem open_expr {H : Type} {enc : TypeId × Value → H} {w : World} {base : Nat} {sp : Nat → Bool} {hd : Bool} : ∀ (fuel : Nat) (cs : List Value) (x : DataW H × List MemPlace), DataW.trod enc Tryz.prog w base sp hd fuel 24 cs = some x →
    ∃ e A c, cs = [.int .i64 e.op, .string (bs e.s), .slice A e.l.length c] ∧ ExV (memOf w) e A c ∧ e.mass ≤ Rows.uptoBulk x.1 := by
  intro fuel
  induction fuel using Nat.strongRecOn with
  | _ fuel ih =>
    intro cs x h
    obtain ⟨xs, n, rfl, rfl, hlen, hsz, hf⟩ := DataW.trod_struct Tryz.underlying24 h
    rw [Tryz.cellsE] at hlen
    match cs, hlen, xs, hsz with
    | [v0, v1, v2], _, [y0, y1, y2], _ =>
    have h0 : DataW.trod enc Tryz.prog w base sp hd n 3 [v0] = some y0 := hf 0 _ rfl
    have h1 : DataW.trod enc Tryz.prog w base sp hd n 9 [v1] = some y1 := hf 1 _ rfl
    have h2 : DataW.trod enc Tryz.prog w base sp hd n 22 [v2] = some y2 := hf 2 _ rfl
    obtain ⟨op, e0, rfl, _⟩ := DataW.trod_int Tryz.underlying3 h0
    obtain ⟨s, e1, rfl, hs⟩ := DataW.trod_string Tryz.underlying9 h1
    injection e0 with e0; subst e0
    injection e1 with e1; subst e1
    rcases DataW.trod_slice Tryz.underlying22 h2 with ⟨e2, rfl⟩ | ⟨a, len, cap, elems, rest, m, rfl, e2, rfl, hb, hlc, hcm, hel, hrow, _⟩
    · injection e2 with e2; subst e2
      refine ⟨.mk op s.data.toList [], none, 0, by simp [E.op, E.s, E.l, bs_data], ExV.leaf _ _ _ _ _, ?_⟩
      simp [E.mass, masses, Rows.uptoBulk, Rows.uptoBulkAll]
      omega
    · injection e2 with e2; subst e2
      rw [Tryz.cellsE] at hrow
      have key : ∀ i, (hi : i < elems.length) → ∃ e A c, (w.cells? base (a.add (i * 3)) 3) = some [.int .i64 e.op, .string (bs e.s), .slice A e.l.length c] ∧ ExV (memOf w) e A c ∧ e.mass ≤ Rows.uptoBulk (elems[i]).1 := by
        intro i hi
        have hr := hrow i (by omega)
        rw [List.getElem?_eq_getElem hi] at hr
        cases hc : w.cells? base (a.add (i * 3)) 3 with
        | none => rw [hc] at hr; cases hr
        | some cs3 =>
          rw [hc] at hr
          obtain ⟨e, A, c, rfl, hx, hm⟩ := ih m (by omega) cs3 _ hr
          exact ⟨e, A, c, rfl, hx, hm⟩
      have hall : ∃ ps : List (E × Option Addr × Nat), ps.length = elems.length ∧ ∀ i, (hi : i < elems.length) → (hp : i < ps.length) → (w.cells? base (a.add (i * 3)) 3) = some [.int .i64 ps[i].1.op, .string (bs ps[i].1.s), .slice ps[i].2.1 ps[i].1.l.length ps[i].2.2] ∧ ExV (memOf w) ps[i].1 ps[i].2.1 ps[i].2.2 ∧ ps[i].1.mass ≤ Rows.uptoBulk (elems[i]).1 := by
        clear hrow hel hlc hcm h0 h1 h2 hf h ih
        have : ∀ n, n ≤ elems.length → ∃ ps : List (E × Option Addr × Nat), ps.length = n ∧ ∀ i, (hi : i < elems.length) → (hp : i < ps.length) → (w.cells? base (a.add (i * 3)) 3) = some [.int .i64 ps[i].1.op, .string (bs ps[i].1.s), .slice ps[i].2.1 ps[i].1.l.length ps[i].2.2] ∧ ExV (memOf w) ps[i].1 ps[i].2.1 ps[i].2.2 ∧ ps[i].1.mass ≤ Rows.uptoBulk (elems[i]).1 := by
          intro n
          induction n with
          | zero => intro _; exact ⟨[], rfl, fun i hi hp => by simp at hp⟩
          | succ n ihn =>
            intro hn
            obtain ⟨ps, hps, hq⟩ := ihn (by omega)
            obtain ⟨e, A, c, k1, k2, k3⟩ := key n (by omega)
            refine ⟨ps ++ [(e, A, c)], by simp [hps], fun i hi hp => ?_⟩
            by_cases hin : i < n
            · rw [List.getElem_append_left (by omega)]
              exact hq i hi (by omega)
            · have hin : i = n := by simp [hps] at hp; omega
              subst hin
              rw [List.getElem_append_right (by omega)]
              simp only [hps, Nat.sub_self, List.getElem_cons_zero]
              exact ⟨k1, k2, k3⟩
        exact this _ (Nat.le_refl _)
      obtain ⟨ps, hpl, hps⟩ := hall
      have hmass : masses (ps.map (·.1)) ≤ Rows.uptoBulkAll (elems.map (·.1)) := by
        have : ∀ (ps : List (E × Option Addr × Nat)) (es : List (DataW H × List MemPlace)), ps.length = es.length → (∀ i, (hi : i < es.length) → (hp : i < ps.length) → ps[i].1.mass ≤ Rows.uptoBulk (es[i]).1) → masses (ps.map (·.1)) ≤ Rows.uptoBulkAll (es.map (·.1)) := by
          intro ps
          induction ps with
          | nil => intro es h1 _; cases es with
            | nil => simp [masses, Rows.uptoBulkAll]
            | cons _ _ => simp at h1
          | cons p ps ihp => intro es h1 h2; cases es with
            | nil => simp at h1
            | cons y es =>
              simp only [List.map_cons, masses, Rows.uptoBulkAll]
              have a0 := h2 0 (by simp) (by simp)
              have a1 := ihp es (by simpa using h1) (fun i hi hp => h2 (i + 1) (Nat.succ_lt_succ hi) (Nat.succ_lt_succ hp))
              simp at a0
              omega
        exact this ps elems hpl (fun i hi hp => (hps i hi hp).2.2)
      have hcell : ∀ j, (h : j < ps.length) → ∃ b o, (some a : Option Addr) = some ⟨b, o, none⟩ ∧ w.cell? ⟨b, o + j * 3, none⟩ = some (.int .i64 ps[j].1.op) ∧ w.cell? ⟨b, o + j * 3 + 1, none⟩ = some (.string (bs ps[j].1.s)) ∧ w.cell? ⟨b, o + j * 3 + 2, none⟩ = some (.slice ps[j].2.1 ps[j].1.l.length ps[j].2.2) := by
        intro j hj
        have hz := (cellsT (hps 0 (by omega) (by omega)).1).1
        have hsp : a.spot = none := by
          have := cell_spot hz
          simpa [Addr.add] using this
        obtain ⟨c0, c1, c2⟩ := cellsT (hps j (by omega) hj).1
        rw [add_flat hsp] at c0 c1 c2
        rw [add_flat rfl] at c1 c2
        obtain ⟨b, o, s⟩ := a
        simp only at hsp
        subst hsp
        exact ⟨b, o, rfl, c0, c1, c2⟩
      have hlen2 : (ps.map (·.1)).length = len := by simp [hpl, hel]
      refine ⟨.mk op s.data.toList (ps.map (·.1)), some a, cap, by simp [E.op, E.s, E.l, bs_data, hpl, hel], ?_, ?_⟩
      · refine ExM.mk op s.data.toList (ps.map (·.1)) (some a) cap (fun j => if h : j < ps.length then .slice ps[j].2.1 ps[j].1.l.length ps[j].2.2 else undef) (by rw [hlen2]; exact hlc) (fun j hj => ?_) (fun j hj => ?_)
        · have hj' : j < ps.length := by simpa using hj
          obtain ⟨b, o, k1, k2, k3, k4⟩ := hcell j hj'
          refine ⟨b, o, k1, ?_, ?_, ?_⟩
          · rw [memOf_cell]; simpa using k2
          · rw [memOf_cell]; simpa using k3
          · rw [memOf_cell, dif_pos hj']; exact k4
        · have hj' : j < ps.length := by simpa using hj
          rw [dif_pos hj']
          have := (hps j (by omega) hj').2.1
          simpa [ExV] using this
      · simp only [E.mass, List.map_cons, List.map_nil, Rows.uptoBulk, Rows.uptoBulkAll]
        omega
end Go.Proofs.YtgdnhlckodhhgaaGreatDoor

/-
  An argument that is an expression: what it is, and that it reads behind the call as before.
-/
namespace Go.Proofs.YtgdnhlckodhhgaaGreatDoor
open Go.RowKit Go.ChangeShapes Go.WideShapes Go.ChangeAt
set_option linter.unusedVariables false
theorem Tryz.laidOut : laidOutB Tryz.prog = true := by kernel_rfl
theorem Tryz.readE : Tryz.prog.readableRec 24 = true := by kernel_rfl
theorem Tryz.rowE : 24 < Tryz.prog.types.size := of_decide_eq_true (by kernel_rfl)
set_option maxRecDepth 100000 in
theorem open_arg {H : Type} {enc : TypeId × Value → H} {w : World} {base b0 : Nat} {sp : Nat → Bool} {hd : Bool} {r : Reach} {v : Value} {d : DataW H} {p : List MemPlace} (hv : Value.okWide Tryz.prog w r b0 24 v) (h : DataW.Trod enc Tryz.prog w base sp hd 24 v d p) :
    ∃ e A c, v = .agg #[.int .i64 e.op, .string (bs e.s), .slice A e.l.length c] ∧ ExV (memOf w) e A c ∧ e.mass ≤ Rows.uptoBulk d := by
  obtain ⟨fuel, h⟩ := h
  obtain ⟨e, A, c, h1, h2, h3⟩ := open_expr fuel _ _ h
  have hu : Tryz.prog.underlying 24 = _ := Tryz.underlying24
  have hv' : ∃ cs, v = .agg cs := by
    unfold Value.okWide at hv
    rw [hu] at hv
    obtain ⟨cs, hc, _⟩ := hv
    exact ⟨cs, hc⟩
  obtain ⟨cs, rfl⟩ := hv'
  have h4 : cs.toList = [.int .i64 e.op, .string (bs e.s), .slice A e.l.length c] := h1
  have h5 : cs = #[.int .i64 e.op, .string (bs e.s), .slice A e.l.length c] := Array.toList_inj.1 h4
  exact ⟨e, A, c, by rw [h5], h2, h3⟩
theorem bulk_part {H : Type} {d : DataW H} {l : List (DataW H)} (h : d ∈ l) : Rows.uptoBulk d ≤ Rows.uptoBulkAll l := by
  induction l with
  | nil => cases h
  | cons x r ih =>
    simp only [Rows.uptoBulkAll]
    cases List.mem_cons.1 h with
    | inl e => subst e; omega
    | inr e => have := ih e; omega
set_option maxRecDepth 100000 in
theorem bulk_bound {H : Type} {l : List (DataW H)} (hk : Rows.uptoSmall H l = true) {d : DataW H} (h : d ∈ l) : Rows.uptoBulk d ≤ 1048576 :=
  Nat.le_trans (bulk_part h) (of_decide_eq_true hk)
end Go.Proofs.YtgdnhlckodhhgaaGreatDoor
