/-
  The asker's memory: a map whose keys are a node's number and a word.
-/
import Derived.Test.YtgdnhlckodhhgaaGreatDoorJB
import Derived.Test.YtgdnhlckodhhgaaGreatDoorJQ
import Derived.DeepKeys4
import Derived.Deep.OwnRows
import Derived.Test.YtgdnhlckodhhgaaGreatDoorJC
namespace Go.Proofs.YtgdnhlckodhhgaaGreatDoor
open Go.RowKit
set_option linter.unusedVariables false
set_option linter.unusedSimpArgs false
theorem Tryz.qlaw : WideMaps.KeyLaw Tryz.prog 120 := deep_law_laid (m := 3) (by kernel_rfl) (by omega) (of_decide_eq_true (by kernel_rfl)) (by kernel_rfl) (by kernel_rfl)
theorem Tryz.qsize : ∃ m, Tryz.prog.types.size + 1 = m + 2 := ⟨Tryz.prog.types.size - 1, by have : 1 ≤ Tryz.prog.types.size := of_decide_eq_true (by kernel_rfl); omega⟩
theorem Tryz.qcells : Tryz.prog.cellsOf 120 = 2 := by kernel_rfl
theorem Tryz.qcell3 : Tryz.prog.cellsOf 3 = 1 := by kernel_rfl
theorem Tryz.qcell9 : Tryz.prog.cellsOf 9 = 1 := by kernel_rfl
theorem Tryz.qtype : Tryz.prog.keyType 120 = true := by kernel_rfl
def QK (k : Nat) (u : Bs) : Value := .agg #[.int .i64 (k : Nat), .string (bs u)]
theorem qkey0 (k : Nat) (u : Bs) (h1 : k < 1099511627776) (hs : u.length ≤ 1099511627776) : ∃ l, keyOf Tryz.prog 120 (.agg #[.int .i64 (k : Nat), .string (bs u)]) = some l := by
  have hw : (Lit.int .i64 (k : Nat)).wf = true := by
    have a : IntKind.i64.min = -9223372036854775808 := rfl
    have b : IntKind.i64.max = 9223372036854775807 := rfl
    simp [Lit.wf, a, b]; omega
  have hm : (bs u).size ≤ maxLen := by unfold maxLen; rw [bs_size]; omega
  obtain ⟨m, hm'⟩ := Tryz.qsize
  have hu : Tryz.prog.underlying 120 = _ := Tryz.underlying120
  have h3 : Tryz.prog.keyLits (m + 1) 3 [.int .i64 (k : Nat)] = some [.int .i64 (k : Nat)] := by
    unfold Program.keyLits; simp only [Tryz.underlying3]; simp [hw]
  have h9 : Tryz.prog.keyLits (m + 1) 9 [.string (bs u)] = some [.string (bs u).data.toList] := by
    unfold Program.keyLits; simp only [Tryz.underlying9]; simp [hm]
  have hk : Tryz.prog.keyLits (m + 2) 120 [.int .i64 (k : Nat), .string (bs u)] = some [.int .i64 (k : Nat), .string (bs u).data.toList] := by
    unfold Program.keyLits
    simp only [hu]
    rw [if_pos (by rw [Tryz.qcells]; exact ⟨rfl, by simp⟩)]
    simp [h3, h9, Tryz.qcell3, Tryz.qcell9]
  refine ⟨.string (keyBytes [.int .i64 (k : Nat), .string (bs u).data.toList]), ?_⟩
  simp only [keyOf, hu]
  rw [if_pos (by simp only [Tryz.qtype, Value.formed, hu, Tryz.qcells]; rfl)]
  rw [hm', show (Value.agg #[Value.int .i64 (k : Nat), Value.string (bs u)]).cells.toList = [.int .i64 (k : Nat), .string (bs u)] from rfl, hk]
  rfl
theorem qkey (k : Nat) (u : Bs) (h1 : k < 1099511627776) (hs : u.length ≤ 1099511627776) : ∃ l, keyOf Tryz.prog 120 (QK k u) = some l := qkey0 k u h1 hs
theorem QK_inj {k k' : Nat} {u u' : Bs} (h : QK k u = QK k' u') : k = k' ∧ u = u' := by
  simp only [QK, Value.agg.injEq, Array.mk.injEq, List.cons.injEq, Value.int.injEq, Value.string.injEq, true_and, and_true] at h
  exact ⟨by omega, bs_inj h.2⟩
/-- What is kept is so. -/
def Good (V : Nat → Bs → Bool) (es : Array MapEntry) : Prop := ∀ x ∈ es.toList, ∃ (k : Nat) (u : Bs), k < 1099511627776 ∧ u.length ≤ 1099511627776 ∧ x.key = QK k u ∧ x.val = .bool (V k u)
theorem Good.keys {V : Nat → Bs → Bool} {es : Array MapEntry} (h : Good V es) : ∀ e ∈ es.toList, ∃ l, keyOf Tryz.prog 120 e.key = some l := fun e he => by
  obtain ⟨k, u, h1, h2, h3, _⟩ := h e he
  rw [h3]; exact qkey k u h1 h2
theorem run_zero_bool (w : World) : (zeroValue 4).run Tryz.prog w = .ok (.bool false) w := by
  have h : (Tryz.prog.info? 4).map (fun i => i.zero) = some (some (.bool false)) := by kernel_rfl
  obtain ⟨i, hi, hz⟩ := Option.map_eq_some_iff.1 h
  simp [zeroValue, typeInfo, hi, hz, Sem.run]
theorem run_look {V : Nat → Bs → Bool} {b clock k : Nat} {u : Bs} {es : Array MapEntry} (hg : Good V es) (hk : k < 1099511627776) (hu : u.length ≤ 1099511627776) :
    ∃ v f, (∀ w : World, w.heap[b]? = some (.map es clock) → (Instr.lookup 113 (.map (some b)) (QK k u) true).run Tryz.prog w = .ok (.tuple #[.bool v, .bool f]) w) ∧ (f = true → v = V k u) := by
  obtain ⟨l, hl⟩ := qkey k u hk hu
  have hm : Tryz.prog.underlying 113 = some (.map 120 4) := Tryz.underlying113
  by_cases hx : ∃ e ∈ es.toList, e.key = QK k u
  · refine ⟨V k u, true, fun w hb => ?_, fun _ => rfl⟩
    rcases Tryz.qlaw.find w hl es.toList hg.keys with ⟨h1, h2⟩ | ⟨j, e, h1, h2, h3⟩
    · obtain ⟨e, he, hx⟩ := hx
      exact absurd hx (h2 e he)
    · obtain ⟨k', u', _, _, h4, h5⟩ := hg e (List.mem_of_getElem? h2)
      obtain ⟨rfl, rfl⟩ := QK_inj (h3.symm.trans h4)
      simp only [Instr.lookup, Sem.run_bind, run_underlying hm, MapKept.run_getObj_map hb, Tryz.qlaw.check w _ hl, h1, Result.andThen, h5, Sem.run_pure]
      rfl
  · refine ⟨false, false, fun w hb => ?_, fun h => by cases h⟩
    rcases Tryz.qlaw.find w hl es.toList hg.keys with ⟨h1, h2⟩ | ⟨j, e, h1, h2, h3⟩
    · simp only [Instr.lookup, Sem.run_bind, run_underlying hm, MapKept.run_getObj_map hb, Tryz.qlaw.check w _ hl, h1, Result.andThen, run_zero_bool, Sem.run_pure]
      rfl
    · exact absurd ⟨e, List.mem_of_getElem? h2, h3⟩ hx
theorem run_upd {V : Nat → Bs → Bool} {w : World} {b clock k : Nat} {u : Bs} {es : Array MapEntry} (hb : w.heap[b]? = some (.map es clock)) (hg : Good V es) (hk : k < 1099511627776) (hu : u.length ≤ 1099511627776) :
    ∃ es' clock', (Instr.mapUpdate 113 (.map (some b)) (QK k u) (.bool (V k u))).run Tryz.prog w = .ok () { w with heap := w.heap.setIfInBounds b (.map es' clock') } ∧ Good V es' := by
  obtain ⟨l, hl⟩ := qkey k u hk hu
  have hm : Tryz.prog.underlying 113 = some (.map 120 4) := Tryz.underlying113
  rcases Tryz.qlaw.find w hl es.toList hg.keys with ⟨h1, h2⟩ | ⟨j, e, h1, h2, h3⟩
  · refine ⟨es.push { key := QK k u, val := .bool (V k u), born := clock }, clock + 1, ?_, ?_⟩
    · simp only [Instr.mapUpdate, Sem.run_bind, run_underlying hm, MapKept.run_getObj_map hb, Tryz.qlaw.check w _ hl, h1, Result.andThen, MapKept.run_setObj_map _ hb]
    · intro x hx
      simp only [Array.toList_push, List.mem_append, List.mem_singleton] at hx
      rcases hx with hx | rfl
      · exact hg x hx
      · exact ⟨k, u, hk, hu, rfl, rfl⟩
  · have hst := Tryz.qlaw.stays w hl
    have hj : es[j]? = some e := by rw [← Array.getElem?_toList]; exact h2
    refine ⟨es.modify j (fun e => { e with key := QK k u, val := .bool (V k u) }), clock, ?_, ?_⟩
    · simp only [Instr.mapUpdate, Sem.run_bind, run_underlying hm, MapKept.run_getObj_map hb, Tryz.qlaw.check w _ hl, h1, Result.andThen, hj, Option.map_some, Option.getD_some, h3, hst, MapKept.run_setObj_map _ hb]
    · intro x hx
      simp only [Array.toList_modify] at hx
      obtain ⟨i, hi, hx⟩ := List.getElem_of_mem hx
      rw [List.getElem_modify] at hx
      split at hx
      · subst hx; exact ⟨k, u, hk, hu, rfl, rfl⟩
      · subst hx; exact hg _ (List.getElem_mem _)
end Go.Proofs.YtgdnhlckodhhgaaGreatDoor

/-
  The asker: its state, nodes in memory; what was asked is kept (the walk of Holds, by what ask does).
-/
namespace Go.Proofs.YtgdnhlckodhhgaaGreatDoor
open Go.RowKit
set_option linter.unusedVariables false
set_option linter.unusedSimpArgs false
/-- The asker in memory. -/
def As (w : World) (M : Heap) (ga gm : Nat) (V : Nat → Bs → Bool) : Prop := ∃ (n : Int) (es : Array MapEntry) (clock : Nat), Box w M ga #[.map (some gm), .int .i64 n] 115 ∧ Blk w M gm (.map es clock) ∧ Good V es ∧ ga ≠ gm
/-- A node in memory. -/
inductive NdM (M : Heap) : Nat → Nd → Prop where
  | mk (b num : Nat) (op : Int) (s : Bs) (l : List Nd) (A : Option Addr) (c : Nat) (bj : Nat → Nat) (hb : M b = some (.cells #[.int .i64 (num : Nat), .int .i64 op, .string (bs s), .slice A l.length c] 118 (0, 0)))
      (hrow : ∀ j, (h : j < l.length) → ∃ bb o, A = some ⟨bb, o, none⟩ ∧ cellM M ⟨bb, o + j, none⟩ = some (.pointer (some ⟨bj j, 0, none⟩)))
      (hk : ∀ j, (h : j < l.length) → NdM M (bj j) l[j]) : NdM M b (.mk num op s l)
/-- The numbers of the nodes tell them. -/
def Nums (V : Nat → Bs → Bool) : Nat → Nd → Prop
  | 0, _ => False
  | d + 1, .mk num op s l => num < 1099511627776 ∧ V num = ev (.mk num op s l) ∧ ∀ x ∈ l, Nums V d x
def HE (M : Heap) (ga gm : Nat) (V : Nat → Bs → Bool) (w : World) (r : Bool) (e : Ending) (w' : World) : Prop := e = .returned (.bool r) ∧ Mem w' M ∧ As w' M ga gm V ∧ Kp [gm] w w'
/-- A function of the asker, a node and a word. -/
def HSp (f : FuncId) (M : Heap) (ga gm : Nat) (V : Nat → Bs → Bool) (nd : Nd) (b L : Nat) : Prop := ∀ (u : Bs) (w : World), u.length ≤ L → Mem w M → As w M ga gm V →
  Calls Tryz.prog f #[.pointer (some ⟨ga, 0, none⟩), .pointer (some ⟨b, 0, none⟩), .string (bs u)] w (HE M ga gm V w (ev nd u))
theorem NdM.num {M : Heap} {b : Nat} {nd : Nd} (h : NdM M b nd) : cellM M ⟨b, 0, none⟩ = some (.int .i64 (nd.num : Nat)) := by
  cases h with
  | mk _ _ _ _ _ _ _ _ hb _ _ => simp [cellM, hb, Nd.num]
set_option maxRecDepth 100000 in
set_option maxHeartbeats 2000000 in
theorem Holds_of_ask {M : Heap} {ga gm d b L : Nat} (hL : L ≤ 1000) {V : Nat → Bs → Bool} {nd : Nd} (hn : NdM M b nd) (hv : Nums V d nd) (hask : HSp 78 M ga gm V nd b L) : HSp 38 M ga gm V nd b L := by
  intro u w hu hM hA
  obtain ⟨n, es, clock, hB, hm, hg, hne⟩ := hA
  have hz := bs_size u
  have hVe : nd.num < 1099511627776 ∧ V nd.num = ev nd := by
    cases d with
    | zero => exact hv.elim
    | succ d => cases nd; exact ⟨hv.1, hv.2.1⟩
  obtain ⟨hnum, hVe⟩ := hVe
  obtain ⟨v, f, hlook, hf⟩ := run_look (b := gm) (clock := clock) (u := u) hg hnum (by omega)
  have q0 := hM.cell hn.num
  have c0 : w.cell? ⟨ga, 0, none⟩ = some (.map (some gm)) := hB.cell 0
  have hga := hB.lt
  have hgm := hm.lt
  have HN := Hid.mk hn.num
  have HA := Hid.mk (And.intro hB (And.intro hm (And.intro hg hne)))
  have HV := Hid.mk hVe
  have HF := Hid.mk hf
  have hq0 := (Box.new hM #[.int .i64 (nd.num : Nat), .string (bs u)] 120)
  have hlk : ∀ m, (Instr.lookup 113 (.map (some gm)) (.agg #[.int .i64 (nd.num : Nat), .string (bs u)]) true).run Tryz.prog ((w.alloc (.cells #[.int .i64 (nd.num : Nat), .string (bs u)] 120)).drewN m) = .ok (.tuple #[.bool v, .bool f]) ((w.alloc (.cells #[.int .i64 (nd.num : Nat), .string (bs u)] 120)).drewN m) := fun m => hlook _ ((hm.alloc _).drewN m).blk
  clear hlook hB hm hg hVe hf hq0
  have hHF : f = true → v = ev nd u := fun h => by rw [HF.out h, HV.out]
  clear HF
  cases f with
  | true =>
    have HF := Hid.mk (hHF rfl)
    clear hHF
    go_enter Tryz.func38, Tryz.ntmps38
    go_wp2_with fail
    go_quiet (fail)
    go_wp2_with fail
    go_ret
    obtain ⟨hB, hm, hg, hne⟩ := HA.out
    have hk : Kp [gm] w ((w.alloc (.cells #[.int .i64 (nd.num : Nat), .string (bs u)] 120)).drewN nq) := ((Kp.refl _ _).alloc _).drewN _
    exact ⟨ret_bool HF.out, (hM.alloc _).drewN _, ⟨n, es, clock, (hB.alloc _).drewN _, (hm.alloc _).drewN _, hg, hne⟩, hk⟩
  | false =>
    clear hHF
    go_enter Tryz.func38, Tryz.ntmps38
    go_wp2_with fail
    go_quiet (fail)
    go_wp2_with fail
    obtain ⟨hB, hm, hg, hne⟩ := HA.out
    have hM1 := (hM.alloc (.cells #[.int .i64 (nd.num : Nat), .string (bs u)] 120)).drewN nq
    refine (hask u _ hu hM1 ⟨n, es, clock, (hB.alloc _).drewN _, (hm.alloc _).drewN _, hg, hne⟩).mono ?_
    rintro e w3 ⟨rfl, hM3, ⟨n3, es3, clock3, hB3, hm3, hg3, hne3⟩, hk3⟩
    have hq3 := ((Box.new hM #[.int .i64 (nd.num : Nat), .string (bs u)] 120).drewN nq).same hk3 (by simp; omega)
    have k0 : w3.cell? ⟨ga, 0, none⟩ = some (.map (some gm)) := hB3.cell 0
    have k1 : w3.cell? ⟨w.heap.size, 0, none⟩ = some (.int .i64 (nd.num : Nat)) := hq3.cell 0
    have k2 : w3.cell? ⟨w.heap.size, 1, none⟩ = some (.string (bs u)) := hq3.cell 1
    obtain ⟨es4, clock4, hupd, hg4⟩ := run_upd (w := w3.drew) (k := nd.num) (u := u) hm3.blk hg3 hnum (by omega)
    rw [HV.out] at hupd
    have hupd : (Instr.mapUpdate 113 (.map (some gm)) (.agg #[.int .i64 (nd.num : Nat), .string (bs u)]) (.bool (ev nd u))).run Tryz.prog w3.drew = .ok () { w3.drew with heap := w3.drew.heap.setIfInBounds gm (.map es4 clock4) } := hupd
    have hK3 : Kp [gm] w w3 := (((Kp.refl [gm] w).alloc (.cells #[.int .i64 (nd.num : Nat), .string (bs u)] 120)).drewN nq).trans hk3
    have HC := Hid.mk (And.intro hM3 (And.intro hB3 (And.intro hm3 (And.intro hg4 (And.intro hne3 hK3)))))
    clear hM3 hB3 hm3 hg3 hg4 hk3 hq3 hlk c0 q0 hM1 hB hm hg hM hK3
    go_wp2_with fail
    go_region
    go_wp2_with fail
    obtain ⟨hM3, hB3, hm3, hg4, hne3, hK3⟩ := HC.out
    have hks : Kp [gm] w3 { w3.drew with heap := w3.drew.heap.setIfInBounds gm (.map es4 clock4) } := ((Kp.refl [gm] w3).drew).setObj _ (.inl (by simp))
    go_ret
    refine ⟨rfl, hM3.kp hks (by simpa using hm3.out), ⟨n3, es4, clock4, hB3.same hks (by simp [hne3]), ⟨?_, hm3.out⟩, hg4, hne3⟩, hK3.trans hks⟩
    show (w3.drew.heap.setIfInBounds gm _)[gm]? = _
    rw [Array.getElem?_setIfInBounds_self, if_pos (show gm < w3.drew.heap.size from hm3.lt)]
end Go.Proofs.YtgdnhlckodhhgaaGreatDoor

/-
  Rows of bools in memory; star of the asker.
-/
namespace Go.Proofs.YtgdnhlckodhhgaaGreatDoor
open Go.RowKit
set_option linter.unusedVariables false
set_option linter.unusedSimpArgs false
/-- A row of bools, by a function. -/
def bl (f : Nat → Bool) (n : Nat) : Array Value := ((List.range (n + 1)).map fun m => Value.bool (f m)).toArray
theorem bl_get {f : Nat → Bool} {n k : Nat} (h : k ≤ n) : (bl f n)[k]? = some (.bool (f k)) := by
  simp [bl, List.getElem?_map, List.getElem?_range (show k < n + 1 by omega)]
theorem bl_ext {f g : Nat → Bool} {n : Nat} (h : ∀ m, m ≤ n → f m = g m) : bl f n = bl g n := by
  unfold bl
  congr 1
  apply List.map_congr_left
  intro m hm
  rw [h m (by simp at hm; omega)]
theorem bl_set {f : Nat → Bool} {n k : Nat} {v : Bool} : (bl f n).setIfInBounds k (.bool v) = bl (fun m => if m = k then v else f m) n := by
  apply Array.toList_inj.1
  simp only [bl, Array.toList_setIfInBounds]
  apply List.ext_getElem
  · simp
  · intro i h1 h2
    simp only [List.getElem_set, List.getElem_map, List.getElem_range]
    by_cases h : k = i
    · rw [if_pos h, if_pos h.symm]
    · rw [if_neg h, if_neg (fun e => h e.symm)]
theorem bl_new (n : Nat) : madeCells #[Value.bool false] (n + 1) = bl (fun _ => false) n := by
  apply Array.toList_inj.1
  simp only [bl, madeCells]
  apply List.ext_getElem
  · simp
  · intro i h1 h2
    simp [Nat.mod_one]
theorem Tryz.infoB : (Tryz.prog.info? 4).map (fun i => (i.zero, i.size, i.bytes)) = some (some (.bool false), 1, 1) := by kernel_rfl
theorem make_bools (n : Nat) (hn : n ≤ 1000000) (w : World) : (Instr.makeSlice 84 (.int .i64 ((n : Int) + 1)) (.int .i64 ((n : Int) + 1))).run Tryz.prog w = .ok (.slice (some ⟨w.heap.size, 0, none⟩) (n + 1) (n + 1)) (w.alloc (.cells (bl (fun _ => false) n) 4)) := by
  have h := run_make_row' (P := Tryz.prog) 84 4 (.bool false) 1 Tryz.underlying84 Tryz.infoB rfl .i64 .i64 (n + 1) (by omega) (by omega) w
  rw [bl_new] at h
  exact h
end Go.Proofs.YtgdnhlckodhhgaaGreatDoor

/-
  The asker: star.
-/
namespace Go.Proofs.YtgdnhlckodhhgaaGreatDoor
open Go.RowKit
set_option linter.unusedVariables false
set_option linter.unusedSimpArgs false
theorem As.kp {w w1 : World} {M : Heap} {ga gm : Nat} {V : Nat → Bs → Bool} {S : List Nat} (h : As w M ga gm V) (k : Kp S w w1) (h1 : ga ∉ S) (h2 : gm ∉ S) : As w1 M ga gm V := by
  obtain ⟨n, es, clock, hB, hm, hg, hne⟩ := h
  exact ⟨n, es, clock, hB.same k h1, hm.same k h2, hg, hne⟩
theorem As.lt {w : World} {M : Heap} {ga gm : Nat} {V : Nat → Bs → Bool} (h : As w M ga gm V) : ga < w.heap.size ∧ gm < w.heap.size := by
  obtain ⟨n, es, clock, hB, hm, hg, hne⟩ := h
  exact ⟨hB.lt, hm.lt⟩
theorem As.alloc {w : World} {M : Heap} {ga gm : Nat} {V : Nat → Bs → Bool} (h : As w M ga gm V) (o : Obj) : As (w.alloc o) M ga gm V := h.kp ((Kp.refl [] w).alloc o) (by simp) (by simp)
set_option maxRecDepth 100000 in
set_option maxHeartbeats 4000000 in
theorem star_calls {M : Heap} {ga gm b L : Nat} (hL : L ≤ 1000) {V : Nat → Bs → Bool} {nd : Nd} (hx : HSp 38 M ga gm V nd b L) (u : Bs) (w : World) (hu : u.length ≤ L) (hM : Mem w M) (hA : As w M ga gm V) :
    Calls Tryz.prog 120 #[.pointer (some ⟨ga, 0, none⟩), .pointer (some ⟨b, 0, none⟩), .string (bs u)] w (HE M ga gm V w (starB (ev nd) u)) := by
  have hz := bs_size u
  have hmk := make_bools u.length (by omega)
  have hext := fun a c => bs_extract u a c
  obtain ⟨hga, hgm⟩ := hA.lt
  have hb0 := Box.new hM (bl (fun _ => false) u.length) 4
  have e0 : (w.alloc (.cells (bl (fun _ => false) u.length) 4)).cell? ⟨w.heap.size, 0, none⟩ = some (.bool false) := (hb0.cell 0).trans (bl_get (Nat.zero_le _))
  have e1 : (w.alloc (.cells (bl (fun _ => false) u.length) 4)).frozen? ⟨w.heap.size, 0, none⟩ = false := hb0.free 0
  go_enter Tryz.func120, Tryz.ntmps120
  go_wp2_with fail
  have hst : (bl (fun _ => false) u.length).setIfInBounds 0 (.bool true) = bl (Es (ev nd) u 0) u.length := by
    rw [bl_set]
    exact bl_ext (fun m _ => by rw [Es_zero]; by_cases h : m = 0 <;> simp [h])
  rw [hst]
  clear e0 e1 hb0 hst hmk
  have HX := Hid.mk hext
  clear hext
  go_loopg [18] u.length (fun kk v wr => ∃ i : Nat, i ≤ u.length ∧ kk = u.length - i ∧ v = .int .i64 (i : Nat) ∧ Box wr M w.heap.size (bl (Es (ev nd) u i) u.length) 4 ∧ Mem wr M ∧ As wr M ga gm V ∧ Kp [gm] w wr)
  case atStart => exact ⟨0, Nat.zero_le _, by simp, rfl, Box.new hM _ _, hM.alloc _, hA.alloc _, (Kp.refl _ _).alloc _⟩
  case round =>
    obtain ⟨i, hi, hk, rfl, hb, hM', hA', hK⟩ := hrel
    by_cases hlt : i < u.length
    · have HH := Hid.mk (And.intro hb (And.intro hM' (And.intro hA' hK)))
      clear hb hM' hA' hK
      go_wp2_with fail
      go_loopg [9] (u.length - i) (fun kk v wy => ∃ k : Nat, i + 1 ≤ k ∧ k ≤ u.length + 1 ∧ kk = u.length + 1 - k ∧ v = .int .i64 (k : Nat) ∧ Box wy M w.heap.size (bl (fun m => if m < k then Es (ev nd) u (i + 1) m else Es (ev nd) u i m) u.length) 4 ∧ Mem wy M ∧ As wy M ga gm V ∧ Kp [gm] w wy)
      case atStart =>
        obtain ⟨hb, hM', hA', hK⟩ := HH.out
        refine ⟨i + 1, Nat.le_refl _, by omega, by omega, by go_num, ?_, hM', hA', hK⟩
        rw [bl_ext (g := Es (ev nd) u i)]
        · exact hb
        · intro m _
          split
          · exact Es_keep _ _ (by omega)
          · rfl
      case round =>
        obtain ⟨k, hk1, hk2, hkk, rfl, hby, hMy, hAy, hKy⟩ := hrel
        have qi := (hby.cell i).trans (bl_get (Nat.le_of_lt hlt))
        rw [if_pos (show i < k by omega), Es_full _ _ (by omega : i ≤ i + 1)] at qi
        cases hE : Ef (ev nd) u i with
        | false =>
          rw [hE] at qi
          have HE' := Hid.mk hE
          have HB := Hid.mk (And.intro hby (And.intro hMy (And.intro hAy hKy)))
          clear hE hby hMy hAy hKy
          go_wp2_with fail
          go_roundg (u.length - (i + 1))
          case measure => omega
          case rel =>
            obtain ⟨hby, hMy, hAy, hKy⟩ := HB.out
            refine ⟨i + 1, by omega, rfl, by go_num, ?_, hMy, hAy, hKy⟩
            rw [bl_ext (g := Es (ev nd) u (i + 1))] at hby
            · exact hby
            · intro m _
              split
              · rfl
              · exact (Es_no _ _ HE'.out).symm
        | true =>
          rw [hE] at qi
          have HE' := Hid.mk hE
          clear hE
          by_cases hkn : k ≤ u.length
          · have qk := (hby.cell k).trans (bl_get hkn)
            rw [if_neg (show ¬ k < k by omega)] at qk
            have fk := hby.free k
            cases hV : Es (ev nd) u i k with
            | true =>
              rw [hV] at qk
              have HV := Hid.mk hV
              have HB := Hid.mk (And.intro hby (And.intro hMy (And.intro hAy hKy)))
              clear hV hby hMy hAy hKy
              go_wp2_with fail
              go_roundg (u.length + 1 - (k + 1))
              case measure => omega
              case rel =>
                obtain ⟨hby, hMy, hAy, hKy⟩ := HB.out
                have hks : Kp [w.heap.size] wr (wr.setCell ⟨w.heap.size, k, none⟩ (.bool true)) := (Kp.refl _ _).setCell (.inl (by simp)) _
                have hb2 := hby.set k (.bool true)
                rw [bl_set, bl_ext (g := fun m => if m < k + 1 then Es (ev nd) u (i + 1) m else Es (ev nd) u i m)] at hb2
                · exact ⟨k + 1, by omega, by omega, rfl, by go_num, hb2, hMy.kp hks (by simpa using hby.out), hAy.kp hks (by simp; omega) (by simp; omega), hKy.setCell (.inr (Nat.le_refl _)) _⟩
                · intro m _
                  rcases Nat.lt_trichotomy m k with h | h | h
                  · rw [if_neg (by omega), if_pos h, if_pos (by omega)]
                  · subst h
                    rw [if_pos rfl, if_pos (by omega), Es_step _ _ (by omega), HV.out]; rfl
                  · rw [if_neg (by omega), if_neg (by omega), if_neg (by omega)]
            | false =>
              rw [hV] at qk
              have HV := Hid.mk hV
              have hext := HX.out i k
              have HP := Hid.mk (show bs (List.drop i (List.take k u)) = bs (part u i k) from rfl)
              have hpl : (part u i k).length ≤ L := by simp [part]; omega
              have HB := Hid.mk (And.intro hby (And.intro hMy (And.intro hAy hKy)))
              clear hV hby hMy hAy hKy
              go_wp2_with fail
              refine (hx (part u i k) wr hpl HB.out.2.1 HB.out.2.2.1).mono ?_
              rintro e w5 ⟨rfl, hM5, hA5, hk5⟩
              obtain ⟨hby, hMy, hAy, hKy⟩ := HB.out
              have hb5 := hby.same hk5 (by simp; omega)
              have f5 := hb5.free k
              have qk5 := (hb5.cell k).trans (bl_get hkn)
              have HC := Hid.mk (And.intro hb5 (And.intro hM5 (And.intro hA5 (hKy.trans hk5))))
              clear hby hMy hAy hKy hb5 hM5 hA5 hk5 qk fk qi HB
              go_wp2_with fail
              go_roundg (u.length + 1 - (k + 1))
              case measure => omega
              case rel =>
                obtain ⟨hb5, hM5, hA5, hK5⟩ := HC.out
                have hks : Kp [w.heap.size] w5 (w5.setCell ⟨w.heap.size, k, none⟩ (.bool (ev nd (part u i k)))) := (Kp.refl _ _).setCell (.inl (by simp)) _
                have hb2 := hb5.set k (.bool (ev nd (part u i k)))
                rw [bl_set, bl_ext (g := fun m => if m < k + 1 then Es (ev nd) u (i + 1) m else Es (ev nd) u i m)] at hb2
                · exact ⟨k + 1, by omega, by omega, rfl, by go_num, hb2, hM5.kp hks (by simpa using hb5.out), hA5.kp hks (by simp; omega) (by simp; omega), hK5.setCell (.inr (Nat.le_refl _)) _⟩
                · intro m _
                  rcases Nat.lt_trichotomy m k with h | h | h
                  · rw [if_neg (by omega), if_pos h, if_pos (by omega)]
                  · subst h
                    rw [if_pos rfl, if_pos (by omega), Es_step _ _ (by omega), HV.out, HE'.out]; simp
                  · rw [if_neg (by omega), if_neg (by omega), if_neg (by omega)]
          · have hk9 : k = u.length + 1 := by omega
            have hlt2 : ¬ ((k : Int) ≤ (u.length : Int)) := by omega
            have HB := Hid.mk (And.intro hby (And.intro hMy (And.intro hAy hKy)))
            clear hby hMy hAy hKy
            go_wp2_with fail
            go_roundg (u.length - (i + 1))
            case measure => omega
            case rel =>
              obtain ⟨hby, hMy, hAy, hKy⟩ := HB.out
              refine ⟨i + 1, by omega, rfl, by go_num, ?_, hMy, hAy, hKy⟩
              rw [bl_ext (g := Es (ev nd) u (i + 1))] at hby
              · exact hby
              · intro m hm
                rw [if_pos (by omega)]
    · obtain rfl : i = u.length := by omega
      have hlt' : ¬ ((u.length : Int) < (u.length : Int)) := by omega
      have q := (hb.cell u.length).trans (bl_get (Nat.le_refl _))
      have HF := Hid.mk ((Es_full (ev nd) u (Nat.le_refl _)).trans (starB_eq (ev nd) u).symm)
      go_wp2_with fail
      go_ret
      exact ⟨ret_bool HF.out, hM', hA', hK⟩
end Go.Proofs.YtgdnhlckodhhgaaGreatDoor

/-
  The asker: words one behind the other.
-/
namespace Go.Proofs.YtgdnhlckodhhgaaGreatDoor
open Go.RowKit
set_option linter.unusedVariables false
set_option linter.unusedSimpArgs false
set_option maxRecDepth 100000 in
set_option maxHeartbeats 8000000 in
theorem chain_calls {M : Heap} {ga gm c L : Nat} (hL : L ≤ 1000) {V : Nat → Bs → Bool} {l : List Nd} {A : Option Addr} {bj : Nat → Nat} (hrow : ∀ j, (h : j < l.length) → ∃ bb o, A = some ⟨bb, o, none⟩ ∧ cellM M ⟨bb, o + j, none⟩ = some (.pointer (some ⟨bj j, 0, none⟩)))
    (hk : ∀ j, (h : j < l.length) → HSp 38 M ga gm V l[j] (bj j) L) (hl : l.length ≤ 1000000) (u : Bs) (w : World) (hu : u.length ≤ L) (hM : Mem w M) (hA : As w M ga gm V) :
    Calls Tryz.prog 117 #[.pointer (some ⟨ga, 0, none⟩), .slice A l.length c, .string (bs u)] w (HE M ga gm V w (chainB (evs l) u)) := by
  have hz := bs_size u
  have hmk := make_bools u.length (by omega)
  have hext := fun a c => bs_extract u a c
  obtain ⟨hga, hgm⟩ := hA.lt
  have hb0 := Box.new hM (bl (fun _ => false) u.length) 4
  have e0 : (w.alloc (.cells (bl (fun _ => false) u.length) 4)).cell? ⟨w.heap.size, 0, none⟩ = some (.bool false) := (hb0.cell 0).trans (bl_get (Nat.zero_le _))
  have e1 : (w.alloc (.cells (bl (fun _ => false) u.length) 4)).frozen? ⟨w.heap.size, 0, none⟩ = false := hb0.free 0
  have HR := Hid.mk hrow
  have HK := Hid.mk hk
  have HMK := Hid.mk hmk
  have HEV := Hid.mk (chainB_eq (evs l) u)
  have HX := Hid.mk hext
  clear hrow hk hext
  go_enter Tryz.func117, Tryz.ntmps117
  go_wp2_with fail
  have hst : (bl (fun _ => false) u.length).setIfInBounds 0 (.bool true) = bl (Cf u ((evs l).take 0) begF) u.length := by
    rw [bl_set]
    exact bl_ext (fun m _ => by simp only [List.take_zero, Cf, begF]; by_cases h : m = 0 <;> simp [h])
  rw [hst]
  clear e0 e1 hb0 hst hmk
  go_loopg [7, 22] l.length (fun kk v7 v wr => ∃ (j he : Nat), j ≤ l.length ∧ kk = l.length - j ∧ v7 = .slice (some ⟨he, 0, none⟩) (u.length + 1) (u.length + 1) ∧ v = .int .i64 (j : Nat) ∧ w.heap.size ≤ he ∧ Box wr M he (bl (Cf u ((evs l).take j) begF) u.length) 4 ∧ Mem wr M ∧ As wr M ga gm V ∧ Kp [gm] w wr)
  case atStart => exact ⟨0, w.heap.size, Nat.zero_le _, by simp, rfl, rfl, Nat.le_refl _, Box.new hM _ _, hM.alloc _, hA.alloc _, (Kp.refl _ _).alloc _⟩
  case round =>
    obtain ⟨j, he, hj, hkk, rfl, rfl, hhe, hb, hM', hA', hK⟩ := hrel
    by_cases hlt : j < l.length
    · obtain ⟨bb, o, rfl, hcell⟩ := HR.out j hlt
      have qj := hM'.cell hcell
      have hmk := HMK.out
      have HC := Hid.mk (HK.out j hlt)
      have HT : Hid (Cf u ((evs l).take (j + 1)) begF = stepF (ev l[j]) u (Cf u ((evs l).take j) begF)) := Hid.mk (by
        have hj2 : j < (evs l).length := by rw [evs_map, List.length_map]; exact hlt
        rw [← List.take_append_getElem hj2, Cf_snoc]
        congr 1
        simp [evs_map])
      generalize Cf u ((evs l).take j) begF = F at *
      generalize hpe : ev l[j] = P1 at *
      have HP1 := Hid.mk hpe
      clear hpe
      obtain ⟨hga1, hgm1⟩ := hA'.lt
      have hsz := hK.size
      have hb9 := Box.new hM' (bl (Cs P1 u F 0) u.length) 4
      have hne9 : he ≠ wr.heap.size := Nat.ne_of_lt hb.lt
      have hz0 : bl (fun _ => false) u.length = bl (Cs P1 u F 0) u.length := bl_ext (fun m _ => (Cs_zero _ _ _ _).symm)
      rw [hz0] at hmk
      have HH := Hid.mk (And.intro (hb.alloc (.cells (bl (Cs P1 u F 0) u.length) 4)) (And.intro (hM'.alloc (.cells (bl (Cs P1 u F 0) u.length) 4)) (And.intro (hA'.alloc (.cells (bl (Cs P1 u F 0) u.length) 4)) (And.intro (hK.alloc (.cells (bl (Cs P1 u F 0) u.length) 4)) hb9))))
      have hheb := hb.lt
      clear hb hM' hA' hK hb9 hcell
      go_wp2_with fail
      generalize hhn : wr.heap.size = hn at *
      clear hhn
      go_loopg [32] (u.length + 1) (fun kk v wy => ∃ i : Nat, i ≤ u.length + 1 ∧ kk = u.length + 1 - i ∧ v = .int .i64 (i : Nat) ∧ Box wy M he (bl F u.length) 4 ∧ Box wy M hn (bl (Cs P1 u F i) u.length) 4 ∧ Mem wy M ∧ As wy M ga gm V ∧ Kp [gm] w wy)
      case atStart =>
        obtain ⟨hb, hM', hA', hK, hb9⟩ := HH.out
        exact ⟨0, Nat.zero_le _, by simp, rfl, hb, hb9, hM', hA', hK⟩
      case round =>
        obtain ⟨i, hi, hkk2, rfl, hbe, hbn, hM2, hA2, hK2⟩ := hrel
        by_cases hin : i ≤ u.length
        · have hlt3 : (i : Int) < (u.length : Int) + 1 := by omega
          have qi := (hbe.cell i).trans (bl_get hin)
          have HB := Hid.mk (And.intro hbe (And.intro hbn (And.intro hM2 (And.intro hA2 hK2))))
          clear hbe hbn hM2 hA2 hK2
          have hFi : ∃ fi, fi = F i := ⟨_, rfl⟩
          obtain ⟨fi, hFi⟩ := hFi
          rw [← hFi] at qi
          have HFi := Hid.mk hFi
          clear hFi
          go_wp2_with fail
          go_loopg [13] (u.length + 1 - i) (fun kk v wz => ∃ k : Nat, i ≤ k ∧ k ≤ u.length + 1 ∧ kk = u.length + 1 - k ∧ v = .int .i64 (k : Nat) ∧ Box wz M he (bl F u.length) 4 ∧ Box wz M hn (bl (fun m => if m < k then Cs P1 u F (i + 1) m else Cs P1 u F i m) u.length) 4 ∧ Mem wz M ∧ As wz M ga gm V ∧ Kp [gm] w wz)
          case atStart =>
            obtain ⟨hbe, hbn, hM2, hA2, hK2⟩ := HB.out
            refine ⟨i, Nat.le_refl _, by omega, by omega, by go_num, hbe, ?_, hM2, hA2, hK2⟩
            rw [bl_ext (g := Cs P1 u F i)]
            · exact hbn
            · intro m _
              split
              · exact Cs_keep _ _ _ (by omega)
              · rfl
          case round =>
            clear HB qi
            obtain ⟨k, hk1, hk2, hkk3, rfl, hbe, hby, hMy, hAy, hKy⟩ := hrel
            cases fi with
            | false =>
              have HB := Hid.mk (And.intro hbe (And.intro hby (And.intro hMy (And.intro hAy hKy))))
              clear hbe hby hMy hAy hKy
              go_wp2_with fail
              go_roundg (u.length + 1 - (i + 1))
              case measure => omega
              case rel =>
                obtain ⟨hbe, hby, hMy, hAy, hKy⟩ := HB.out
                refine ⟨i + 1, by omega, rfl, by go_num, hbe, ?_, hMy, hAy, hKy⟩
                rw [bl_ext (g := Cs P1 u F (i + 1))] at hby
                · exact hby
                · intro m _
                  split
                  · rfl
                  · exact (Cs_no _ _ _ HFi.out.symm).symm
            | true =>
              by_cases hkn : k ≤ u.length
              · have qk := (hby.cell k).trans (bl_get hkn)
                rw [if_neg (show ¬ k < k by omega)] at qk
                have fk := hby.free k
                cases hV : Cs P1 u F i k with
                | true =>
                  rw [hV] at qk
                  have HV := Hid.mk hV
                  have HB := Hid.mk (And.intro hbe (And.intro hby (And.intro hMy (And.intro hAy hKy))))
                  clear hV hbe hby hMy hAy hKy
                  go_wp2_with fail
                  go_roundg (u.length + 1 - (k + 1))
                  case measure => omega
                  case rel =>
                    obtain ⟨hbe, hby, hMy, hAy, hKy⟩ := HB.out
                    have hks : Kp [hn] wr (wr.setCell ⟨hn, k, none⟩ (.bool true)) := (Kp.refl _ _).setCell (.inl (by simp)) _
                    have hb2 := hby.set k (.bool true)
                    rw [bl_set, bl_ext (g := fun m => if m < k + 1 then Cs P1 u F (i + 1) m else Cs P1 u F i m)] at hb2
                    · exact ⟨k + 1, by omega, by omega, rfl, by go_num, hbe.same hks (by simpa using hne9), hb2, hMy.kp hks (by simpa using hby.out), hAy.kp hks (by simp; omega) (by simp; omega), hKy.setCell (.inr (by simp; omega)) _⟩
                    · intro m _
                      rcases Nat.lt_trichotomy m k with h | h | h
                      · rw [if_neg (by omega), if_pos h, if_pos (by omega)]
                      · subst h
                        rw [if_pos rfl, if_pos (by omega), Cs_step _ _ _ (by omega), HV.out]; rfl
                      · rw [if_neg (by omega), if_neg (by omega), if_neg (by omega)]
                | false =>
                  rw [hV] at qk
                  have HV := Hid.mk hV
                  have hext := HX.out i k
                  have hpl : (part u i k).length ≤ L := by simp [part]; omega
                  have HB := Hid.mk (And.intro hbe (And.intro hby (And.intro hMy (And.intro hAy hKy))))
                  clear hV hbe hby hMy hAy hKy
                  go_wp2_with fail
                  refine (HC.out (part u i k) _ hpl HB.out.2.2.1 HB.out.2.2.2.1).mono ?_
                  rintro e w5 ⟨rfl, hM5, hA5, hk5⟩
                  rw [HP1.out]
                  have hP5 : ∃ v5, v5 = P1 (part u i k) := ⟨_, rfl⟩
                  obtain ⟨v5, hP5⟩ := hP5
                  rw [← hP5]
                  have HP5 := Hid.mk hP5
                  clear hP5
                  obtain ⟨hbe, hby, hMy, hAy, hKy⟩ := HB.out
                  have hbe5 := hbe.same hk5 (by simp; omega)
                  have hb5 := hby.same hk5 (by simp; omega)
                  have f5 := hb5.free k
                  have qk5 := (hb5.cell k).trans (bl_get hkn)
                  have HB2 := Hid.mk (And.intro hbe5 (And.intro hb5 (And.intro hM5 (And.intro hA5 (hKy.trans hk5)))))
                  clear hbe hby hMy hAy hKy hbe5 hb5 hM5 hA5 hk5 qk fk HB
                  have HB := HB2
                  clear HB2
                  go_wp2_with fail
                  go_roundg (u.length + 1 - (k + 1))
                  case measure => omega
                  case rel =>
                    obtain ⟨hbe, hby, hMy, hAy, hKy⟩ := HB.out
                    have hks : Kp [hn] w5 (w5.setCell ⟨hn, k, none⟩ (.bool v5)) := (Kp.refl _ _).setCell (.inl (by simp)) _
                    have hb2 := hby.set k (.bool v5)
                    rw [bl_set, bl_ext (g := fun m => if m < k + 1 then Cs P1 u F (i + 1) m else Cs P1 u F i m)] at hb2
                    · exact ⟨k + 1, by omega, by omega, rfl, by go_num, hbe.same hks (by simpa using hne9), hb2, hMy.kp hks (by simpa using hby.out), hAy.kp hks (by simp; omega) (by simp; omega), hKy.setCell (.inr (by simp; omega)) _⟩
                    · intro m _
                      rcases Nat.lt_trichotomy m k with h | h | h
                      · rw [if_neg (by omega), if_pos h, if_pos (by omega)]
                      · subst h
                        rw [if_pos rfl, if_pos (by omega), Cs_step _ _ _ (by omega), HV.out, ← HFi.out, HP5.out]; simp
                      · rw [if_neg (by omega), if_neg (by omega), if_neg (by omega)]
              · have hk9 : k = u.length + 1 := by omega
                have hlt2 : ¬ ((k : Int) ≤ (u.length : Int)) := by omega
                have HB := Hid.mk (And.intro hbe (And.intro hby (And.intro hMy (And.intro hAy hKy))))
                clear hbe hby hMy hAy hKy
                go_wp2_with fail
                go_roundg (u.length + 1 - (i + 1))
                case measure => omega
                case rel =>
                  obtain ⟨hbe, hby, hMy, hAy, hKy⟩ := HB.out
                  refine ⟨i + 1, by omega, rfl, by go_num, hbe, ?_, hMy, hAy, hKy⟩
                  rw [bl_ext (g := Cs P1 u F (i + 1))] at hby
                  · exact hby
                  · intro m hm
                    rw [if_pos (by omega)]
        · obtain rfl : i = u.length + 1 := by omega
          have hlt2 : ¬ ((u.length : Int) + 1 < (u.length : Int) + 1) := by omega
          have HB := Hid.mk (And.intro hbn (And.intro hM2 (And.intro hA2 hK2)))
          clear hbe hbn hM2 hA2 hK2
          go_wp2_with fail
          go_roundg (l.length - (j + 1))
          case measure => omega
          case rel =>
            obtain ⟨hbn, hM2, hA2, hK2⟩ := HB.out
            refine ⟨j + 1, hn, by omega, rfl, rfl, by go_num, by omega, ?_, hM2, hA2, hK2⟩
            rw [HT.out]
            rw [bl_ext (g := stepF P1 u F)] at hbn
            · exact hbn
            · intro m hm
              exact Cs_full _ _ _ (by omega)
    · obtain rfl : j = l.length := by omega
      have hlt' : ¬ ((l.length : Int) < (l.length : Int)) := by omega
      have q := (hb.cell u.length).trans (bl_get (Nat.le_refl _))
      have HF : Hid (Cf u ((evs l).take l.length) begF u.length = chainB (evs l) u) := Hid.mk (by
        rw [HEV.out, show (evs l).take l.length = evs l by rw [List.take_of_length_le]; rw [evs_map, List.length_map]; exact Nat.le_refl _])
      go_wp2_with fail
      go_ret
      exact ⟨ret_bool HF.out, hM', hA', hK⟩
end Go.Proofs.YtgdnhlckodhhgaaGreatDoor

/-
  slices.ContainsFunc over strings, whatever the function does to memory.
-/
namespace Go.Proofs.YtgdnhlckodhhgaaGreatDoor
open Go.RowKit
set_option linter.unusedVariables false
set_option linter.unusedSimpArgs false
set_option maxRecDepth 100000 in
set_option maxHeartbeats 2000000 in
theorem IndexFuncI_calls {K : Nat} {p : Bs → Bool} {cap : Array Value} {I : World → Prop} (hcf : ∀ s w, (callFunc K (#[.string s] ++ cap)).run Tryz.prog w = .ok (.enter K (#[.string s] ++ cap)) w) {ws : List Bs} {b o : Nat}
    (hK : ∀ s w, s ∈ ws → I w → Calls Tryz.prog K (#[.string (bs s)] ++ cap) w fun e w' => e = .returned (.bool (p s)) ∧ I w')
    (hc : ∀ w, I w → ∀ j, (h : j < ws.length) → w.cell? ⟨b, o + j, none⟩ = some (.string (bs ws[j]))) (c : Nat) (w : World) (hI : I w) (hl : ws.length ≤ 1000000) (hle : ws.length ≤ c) :
    Calls Tryz.prog 111 #[.slice (some ⟨b, o, none⟩) ws.length c, .func (.func K) #[] cap] w fun e w' => (∃ i : Int, e = .returned (.int .i64 i) ∧ decide (0 ≤ i) = ws.any p) ∧ I w' := by
  have HC := Hid.mk hcf
  have HI := Hid.mk hI
  clear hcf hI
  go_enter Tryz.func111, Tryz.ntmps111
  go_wp2_with fail
  go_loopg [8] ws.length (fun k v8 wr => ∃ j : Nat, j ≤ ws.length ∧ k = ws.length - j ∧ v8 = .int .i64 (j : Nat) ∧ (ws.take j).any p = false ∧ Hid (I wr))
  case atStart => exact ⟨0, Nat.zero_le _, by simp, rfl, by simp, HI⟩
  case round =>
    obtain ⟨j, hj, hk, rfl, HJ, HIr⟩ := hrel
    replace HJ := Hid.mk HJ
    by_cases hlt : j < ws.length
    · have hg := hc _ HIr.out j hlt
      have hz := bs_size ws[j]
      have HT := Hid.mk (any_take (p := p) hlt)
      have hcf := fun w => HC.out (bs ws[j]) w
      by_cases hp : p ws[j] = true
      · have HF := Hid.mk (any_true (p := p) hlt hp)
        go_wp2_with fail
        refine (hK _ _ (List.getElem_mem hlt) HIr.out).mono ?_
        rintro e w' ⟨rfl, hI2⟩
        have HI2 := Hid.mk hI2
        clear hI2
        go_wp2_with fail
        go_ret
        exact ⟨⟨_, rfl, by rw [HF.out, decide_eq_true_eq]; omega⟩, HI2.out⟩
      · replace hp := Bool.eq_false_iff.2 hp
        have HD := Hid.mk hp
        go_wp2_with fail
        refine (hK _ _ (List.getElem_mem hlt) HIr.out).mono ?_
        rintro e w' ⟨rfl, hI2⟩
        have HI2 := Hid.mk hI2
        clear hI2
        go_wp2_with fail
        go_roundg (ws.length - (j + 1))
        case measure => omega
        case rel => exact ⟨j + 1, by omega, rfl, by go_num, by rw [HT.out, HJ.out, HD.out]; rfl, HI2⟩
    · obtain rfl : j = ws.length := by omega
      have HE := Hid.mk (show ws.any p = false by have := HJ.out; rwa [List.take_length] at this)
      go_wp2_with fail
      go_ret
      exact ⟨⟨_, rfl, by rw [HE.out]; rfl⟩, HIr.out⟩
set_option maxRecDepth 100000 in
set_option maxHeartbeats 1000000 in
theorem ContainsFuncI_calls {K : Nat} {p : Bs → Bool} {cap : Array Value} {I : World → Prop} (hcf : ∀ s w, (callFunc K (#[.string s] ++ cap)).run Tryz.prog w = .ok (.enter K (#[.string s] ++ cap)) w) {ws : List Bs} {b o : Nat}
    (hK : ∀ s w, s ∈ ws → I w → Calls Tryz.prog K (#[.string (bs s)] ++ cap) w fun e w' => e = .returned (.bool (p s)) ∧ I w')
    (hc : ∀ w, I w → ∀ j, (h : j < ws.length) → w.cell? ⟨b, o + j, none⟩ = some (.string (bs ws[j]))) (c : Nat) (w : World) (hI : I w) (hl : ws.length ≤ 1000000) (hle : ws.length ≤ c) :
    Calls Tryz.prog 68 #[.slice (some ⟨b, o, none⟩) ws.length c, .func (.func K) #[] cap] w fun e w' => e = .returned (.bool (ws.any p)) ∧ I w' := by
  have H := Hid.mk (IndexFuncI_calls hcf hK hc c w hI hl hle)
  clear hcf hK hc hI
  go_enter Tryz.func68, Tryz.ntmps68
  go_wp2_with fail
  refine H.out.mono ?_
  rintro e w' ⟨⟨i, rfl, hi⟩, hI⟩
  have HX := Hid.mk hi
  have HI := Hid.mk hI
  clear hi hI
  go_wp2_with fail
  go_ret
  exact ⟨ret_bool HX.out, HI.out⟩
end Go.Proofs.YtgdnhlckodhhgaaGreatDoor

/-
  The asker: a word cut into two rows: its parts.
-/
namespace Go.Proofs.YtgdnhlckodhhgaaGreatDoor
open Go.RowKit
set_option linter.unusedVariables false
set_option linter.unusedSimpArgs false
theorem bits_one (x : Nat) (hx : x < 1099511627776) : bits BinOp.and .i64 (x : Int) 1 = ((x % 2 : Nat) : Int) := by
  have ha : (BitVec.ofInt 64 (x : Int)).toNat = x := by rw [BitVec.toNat_ofInt]; omega
  have hb : (BitVec.ofInt 64 (1 : Int)).toNat = 1 := by decide
  show IntKind.i64.wrap (((BitVec.ofInt 64 (x : Int)) &&& (BitVec.ofInt 64 1)).toNat : Int) = _
  rw [BitVec.toNat_and, ha, hb, Nat.and_one_is_mod]
  have h : x % 2 = 0 ∨ x % 2 = 1 := by omega
  rcases h with h | h <;> rw [h] <;> decide
theorem bit_is (m i : Nat) (hm : m < 1099511627776) : bits BinOp.and .i64 ((m : Int) / 2 ^ i) 1 = (((m >>> i) % 2 : Nat) : Int) := by
  have e : ((m : Int) / 2 ^ i) = ((m / 2 ^ i : Nat) : Int) := by simp
  rw [e, bits_one _ (Nat.lt_of_le_of_lt (Nat.div_le_self _ _) hm), Nat.shiftRight_eq_div_pow]
theorem bs_cat (x y : Bs) : bs x ++ bs y = bs (x ++ y) := by
  apply ByteArray.ext
  simp [bs, ByteArray.data_append]
def strs (rs : List Bs) : List Value := rs.map fun r => Value.string (bs r)
theorem sl_set {w : World} {M : Heap} {e : TypeId} {g n cap k : Nat} {xs : List Value} {v : Value} (h : Sl w M e 1 g n cap xs) (hk : k < n) : Sl (w.setCell ⟨g, k, none⟩ v) M e 1 g n cap (xs.set k v) := by
  refine ⟨?_, h.out⟩
  obtain ⟨h1, h2⟩ := h.own
  refine ⟨by simpa using h1, ?_⟩
  rcases h2 with ⟨h2, _⟩ | ⟨g', cap', cur, h2, h0, h3, h4, h5, h6, h7⟩
  · cases h2
  · injection h2 with h8 h9 h10
    injection h8 with h8
    injection h8 with h8
    subst h8; subst h10
    refine .inr ⟨g, cap, cur.setIfInBounds k v, rfl, h0, ?_, h4, h5, by simpa using h6, ?_⟩
    · simp only [World.setCell, Array.getElem?_modify, h3]
      simp
    · rw [Array.toList_setIfInBounds, List.take_set, h7]
theorem sl_free {w : World} {M : Heap} {e : TypeId} {size g n cap k : Nat} {xs : List Value} (h : Sl w M e size g n cap xs) : w.frozen? ⟨g, k, none⟩ = false := by
  obtain ⟨cur, spare, h1, _, _⟩ := h.cells
  simp [World.frozen?, h1]
/-- What stays while runs are looked at. -/
def RI (M : Heap) (ga gm b : Nat) (V : Nat → Bs → Bool) (w0 : World) (g0 n cap : Nat) (rs : List Bs) (w : World) : Prop :=
  Box w M w0.heap.size #[.pointer (some ⟨ga, 0, none⟩)] 64 ∧ Box w M (w0.heap.size + 1) #[.pointer (some ⟨b, 0, none⟩)] 67 ∧ Mem w M ∧ As w M ga gm V ∧ Kp [gm] w0 w ∧ Sl w M 9 1 g0 n cap (strs rs) ∧ w0.heap.size + 1 < g0
theorem RI.turn {M : Heap} {ga gm b g0 n cap : Nat} {V : Nat → Bs → Bool} {w0 w w1 : World} {rs : List Bs} (h : RI M ga gm b V w0 g0 n cap rs w) (hgm : gm < w0.heap.size) (hM : Mem w1 M) (hA : As w1 M ga gm V) (hk : Kp [gm] w w1) : RI M ga gm b V w0 g0 n cap rs w1 := by
  obtain ⟨h1, h2, _, _, h5, h6, h7⟩ := h
  exact ⟨h1.same hk (by simp; omega), h2.same hk (by simp; omega), hM, hA, h5.trans hk, h6.same hk (by simp; omega), h7⟩
theorem RI.drew {M : Heap} {ga gm b g0 n cap : Nat} {V : Nat → Bs → Bool} {w0 w : World} {rs : List Bs} (h : RI M ga gm b V w0 g0 n cap rs w) (hgm : gm < w0.heap.size) : RI M ga gm b V w0 g0 n cap rs w.drew := by
  obtain ⟨h1, h2, h3, h4, h5, h6, h7⟩ := h
  exact ⟨h1.drew, h2.drew, h3.drew, h4.kp ((Kp.refl [] w).drew) (by simp) (by simp), h5.drew, h6.same ((Kp.refl [] w).drew) (by simp), h7⟩
set_option maxRecDepth 100000 in
set_option maxHeartbeats 2000000 in
theorem rows1_calls {M : Heap} {ga gm b b1 c o bb g0 n cap L : Nat} (hL : L ≤ 1000) {V : Nat → Bs → Bool} {num : Nat} {op : Int} {s : Bs} {n1 : Nd} {w0 : World} {rs : List Bs} (hgm : gm < w0.heap.size) (hb : M b = some (.cells #[.int .i64 (num : Nat), .int .i64 op, .string (bs s), .slice (some ⟨bb, o, none⟩) 2 c] 118 (0, 0)))
    (h1 : cellM M ⟨bb, o + 1, none⟩ = some (.pointer (some ⟨b1, 0, none⟩))) (hs1 : HSp 38 M ga gm V n1 b1 L) (r : Bs) (hr : r.length ≤ L) (w : World) (hI : RI M ga gm b V w0 g0 n cap rs w) :
    Calls Tryz.prog 176 #[.string (bs r), .pointer (some ⟨w0.heap.size, 0, none⟩), .pointer (some ⟨w0.heap.size + 1, 0, none⟩)] w fun e w' => e = .returned (.bool (!starB (ev n1) r)) ∧ RI M ga gm b V w0 g0 n cap rs w' := by
  have hcb : cellM M ⟨b, 3, none⟩ = some (.slice (some ⟨bb, o, none⟩) 2 c) := by simp [cellM, hb]
  have q0 := hI.1.cell 0
  have q1 := hI.2.1.cell 0
  have q2 := hI.2.2.1.cell hcb
  have q3 := hI.2.2.1.cell h1
  have q0 : w.cell? ⟨w0.heap.size, 0, none⟩ = some (.pointer (some ⟨ga, 0, none⟩)) := q0
  have q1 : w.cell? ⟨w0.heap.size + 1, 0, none⟩ = some (.pointer (some ⟨b, 0, none⟩)) := q1
  have HI := Hid.mk hI
  clear hI hb
  go_enter Tryz.func176, Tryz.ntmps176
  go_wp2_with fail
  go_region_held3 (fun w' => w'.cell? ⟨w0.heap.size, 0, none⟩ = some (.pointer (some ⟨ga, 0, none⟩)) ∧ w'.cell? ⟨w0.heap.size + 1, 0, none⟩ = some (.pointer (some ⟨b, 0, none⟩)) ∧ w'.cell? ⟨b, 3, none⟩ = some (.slice (some ⟨bb, o, none⟩) 2 c) ∧ w'.cell? ⟨bb, o + 1, none⟩ = some (.pointer (some ⟨b1, 0, none⟩))) (go_keep) (first | (go_at_call 120; refine (star_calls hL hs1 r w.drew hr HI.out.2.2.1.drew (HI.out.drew hgm).2.2.2.1).mono ?_; rintro e w2 ⟨rfl, hM2, hA2, hk2⟩; have HZ := Hid.mk ((HI.out.drew hgm).turn hgm hM2 hA2 hk2); have z0 := HZ.out.1.cell 0; have z1 := HZ.out.2.1.cell 0; have z0 : w2.cell? ⟨w0.heap.size, 0, none⟩ = some (.pointer (some ⟨ga, 0, none⟩)) := z0; have z1 : w2.cell? ⟨w0.heap.size + 1, 0, none⟩ = some (.pointer (some ⟨b, 0, none⟩)) := z1; have z2 := HZ.out.2.2.1.cell hcb; have z3 := HZ.out.2.2.1.cell h1; clear hM2 hA2 hk2))
  go_wp2_with fail
  go_ret
  exact ⟨rfl, HZ.out⟩
end Go.Proofs.YtgdnhlckodhhgaaGreatDoor
