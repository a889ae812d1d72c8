/-
  The symbols of an expression in a map.
-/
import Derived.Test.YtgdnhlckodhhgaaGreatDoorJI
import Derived.StringKeys
import Derived.Test.YtgdnhlckodhhgaaGreatDoorJC
import Derived.Test.YtgdnhlckodhhgaaGreatDoorJQ
namespace Go.Proofs.YtgdnhlckodhhgaaGreatDoor
open Go.RowKit
set_option linter.unusedVariables false
set_option linter.unusedSimpArgs false
theorem Tryz.slaw : WideMaps.KeyLaw Tryz.prog 9 := WideMaps.string_law Tryz.underlying9
theorem skey (s : Bs) (hs : s.length ≤ 1099511627776) : ∃ l, keyOf Tryz.prog 9 (.string (bs s)) = some l := by
  have hm : (bs s).size ≤ maxLen := by unfold maxLen; rw [bs_size]; omega
  exact ⟨_, by simp only [keyOf, Tryz.underlying9, mapKey]; rw [if_pos hm]⟩
/-- The map's keys are symbols of which S holds. -/
def GoodS (S : Bs → Prop) (es : Array MapEntry) (clock : Nat) : Prop := (∀ x ∈ es.toList, (∃ s : Bs, S s ∧ s.length ≤ 1099511627776 ∧ x.key = .string (bs s)) ∧ x.born < clock) ∧ (es.toList.map (·.born)).Nodup
theorem run_updS {S : Bs → Prop} {w : World} {b clock : Nat} {s : Bs} {es : Array MapEntry} (hb : w.heap[b]? = some (.map es clock)) (hg : GoodS S es clock) (hs : S s) (hl : s.length ≤ 1099511627776) :
    ∃ es' clock', (Instr.mapUpdate 73 (.map (some b)) (.string (bs s)) (.bool true)).run Tryz.prog w = .ok () { w with heap := w.heap.setIfInBounds b (.map es' clock') } ∧ GoodS S es' clock' := by
  obtain ⟨l, hkl⟩ := skey s hl
  have hm : Tryz.prog.underlying 73 = some (.map 9 4) := Tryz.underlying73
  have hkeys : ∀ e ∈ es.toList, ∃ l, keyOf Tryz.prog 9 e.key = some l := fun e he => by
    obtain ⟨⟨s', _, h2, h3⟩, _⟩ := hg.1 e he
    rw [h3]; exact skey s' h2
  rcases Tryz.slaw.find w hkl es.toList hkeys with ⟨h1, h2⟩ | ⟨j, e, h1, h2, h3⟩
  · refine ⟨es.push { key := .string (bs s), val := .bool true, born := clock }, clock + 1, ?_, ?_, ?_⟩
    · simp only [Instr.mapUpdate, Sem.run_bind, run_underlying hm, MapKept.run_getObj_map hb, Tryz.slaw.check w _ hkl, h1, Result.andThen, MapKept.run_setObj_map _ hb]
    · intro x hx
      simp only [Array.toList_push, List.mem_append, List.mem_singleton] at hx
      rcases hx with hx | rfl
      · exact ⟨(hg.1 x hx).1, by have := (hg.1 x hx).2; omega⟩
      · exact ⟨⟨s, hs, hl, rfl⟩, Nat.lt_succ_self _⟩
    · simp only [Array.toList_push, List.map_append, List.map_cons, List.map_nil]
      rw [List.nodup_append]
      refine ⟨hg.2, by simp, ?_⟩
      intro a ha b hb2 hab
      obtain ⟨x, hx, rfl⟩ := List.mem_map.1 ha
      have := (hg.1 x hx).2
      simp only [List.mem_singleton] at hb2
      omega
  · have hst := Tryz.slaw.stays w hkl
    have hj : es[j]? = some e := by rw [← Array.getElem?_toList]; exact h2
    refine ⟨es.modify j (fun e => { e with key := .string (bs s), val := .bool true }), clock, ?_, ?_, ?_⟩
    · simp only [Instr.mapUpdate, Sem.run_bind, run_underlying hm, MapKept.run_getObj_map hb, Tryz.slaw.check w _ hkl, h1, Result.andThen, hj, Option.map_some, Option.getD_some, h3, hst, MapKept.run_setObj_map _ hb]
    · intro x hx
      simp only [Array.toList_modify] at hx
      obtain ⟨i, hi, hx⟩ := List.getElem_of_mem hx
      rw [List.getElem_modify] at hx
      split at hx
      · subst hx; exact ⟨⟨s, hs, hl, rfl⟩, (hg.1 _ (List.getElem_mem _)).2⟩
      · subst hx; exact hg.1 _ (List.getElem_mem _)
    · have e : ((es.modify j (fun e => { e with key := .string (bs s), val := .bool true })).toList.map (·.born)) = es.toList.map (·.born) := by
        apply List.ext_getElem
        · simp
        · intro i h1 h2
          simp only [Array.toList_modify, List.getElem_map, List.getElem_modify]
          split <;> rfl
      rw [e]; exact hg.2
/-- All symbols of an expression are so. -/
def Syms (S : Bs → Prop) : Nat → E → Prop
  | 0, _ => False
  | d + 1, e => (e.op = 0 → S e.s ∧ e.s.length ≤ 1099511627776) ∧ ∀ x ∈ e.l, Syms S d x
def GM (w : World) (M : Heap) (gm : Nat) (S : Bs → Prop) : Prop := ∃ es clock, Blk w M gm (.map es clock) ∧ GoodS S es clock
set_option maxRecDepth 100000 in
set_option maxHeartbeats 4000000 in
theorem gather_calls {S : Bs → Prop} {M : Heap} {gm : Nat} (d : Nat) : ∀ (e : E) (A : Option Addr) (c : Nat) (w : World), ExV M e A c → Syms S d e → e.l.length ≤ 1000000 → e.size ≤ 1000000 → Mem w M → GM w M gm S →
    Calls Tryz.prog 73 #[.agg #[.int .i64 e.op, .string (bs e.s), .slice A e.l.length c], .map (some gm)] w fun en w' => en = .returned (.tuple #[]) ∧ Mem w' M ∧ GM w' M gm S ∧ Kp [gm] w w' := by
  induction d with
  | zero => intro e A c w _ h; exact h.elim
  | succ d ih =>
    intro e A c w h hsy hll hsz hM hG
    obtain ⟨es, clock, hm, hg⟩ := hG
    obtain ⟨hs1, hs2⟩ := hsy
    have hgm := hm.lt
    have hb0 := Box.new hM #[.int .i64 e.op, .string (bs e.s), .slice A e.l.length c] 24
    obtain ⟨⟨p0, p1, p2⟩, _, _, _⟩ := hb0.three
    have HS2 := Hid.mk hs2
    have HE := Hid.mk h
    go_enter Tryz.func73, Tryz.ntmps73
    go_upto_if 8 with fail
    go_cut [] from 8 to 11 (fun wy => Mem wy M ∧ Box wy M w.heap.size #[.int .i64 e.op, .string (bs e.s), .slice A e.l.length c] 24 ∧ GM wy M gm S ∧ Kp [gm] w wy)
    case first =>
      by_cases h0 : e.op = 0
      · have b0 : (e.op == 0) = true := by rw [h0]; rfl
        obtain ⟨es', clock', hupd, hg'⟩ := run_updS (w := w.alloc (.cells #[.int .i64 e.op, .string (bs e.s), .slice A e.l.length c] 24)) (hm.alloc _).blk hg (hs1 h0).1 (hs1 h0).2
        have HH := Hid.mk (And.intro hm (And.intro hg' hb0))
        clear hm hg hb0 hs1 hs2 h h0
        go_wp2_with fail
        go_meet
        case rel =>
          obtain ⟨hm, hg', hb0⟩ := HH.out
          have hks : Kp [gm] (w.alloc (.cells #[.int .i64 e.op, .string (bs e.s), .slice A e.l.length c] 24)) { (w.alloc (.cells #[.int .i64 e.op, .string (bs e.s), .slice A e.l.length c] 24)) with heap := (w.alloc (.cells #[.int .i64 e.op, .string (bs e.s), .slice A e.l.length c] 24)).heap.setIfInBounds gm (.map es' clock') } := (Kp.refl [gm] _).setObj _ (.inl (by simp))
          refine ⟨(hM.alloc _).kp hks (by simpa using hm.out), hb0.same hks (by simp; omega), ⟨es', clock', ⟨?_, hm.out⟩, hg'⟩, ((Kp.refl [gm] w).alloc _).trans hks⟩
          show ((w.alloc _).heap.setIfInBounds gm _)[gm]? = _
          rw [Array.getElem?_setIfInBounds_self, if_pos (show gm < (w.alloc _).heap.size by simp; omega)]
      · have b0 : (e.op == 0) = false := by simpa using h0
        clear h0
        go_wp2_with fail
        go_meet
        case rel => exact ⟨hM.alloc _, hb0, ⟨es, clock, hm.alloc _, hg⟩, (Kp.refl _ _).alloc _⟩
    case rest =>
      obtain ⟨hM1, hb1, hG1, hK1⟩ := hcut
      clear p0 p1 p2 hm hg hb0 hs1 hs2 h
      obtain ⟨⟨p0, p1, p2⟩, _, _, _⟩ := hb1.three
      have HH := Hid.mk (And.intro hM1 (And.intro hb1 (And.intro hG1 hK1)))
      clear hM1 hb1 hG1 hK1
      go_wp2_with fail
      go_loopg [15] e.l.length (fun kk v wr => ∃ j : Nat, j ≤ e.l.length ∧ kk = e.l.length - j ∧ v = .int .i64 (j : Nat) ∧ Mem wr M ∧ GM wr M gm S ∧ Kp [gm] w wr)
      case atStart => exact ⟨0, Nat.zero_le _, by simp, rfl, HH.out.1, HH.out.2.2.1, HH.out.2.2.2⟩
      case round =>
        clear HH p0 p1 p2
        obtain ⟨j, hj, hkk, rfl, hM', hG', hK'⟩ := hrel
        by_cases hlt : j < e.l.length
        · obtain ⟨bb, o, rfl⟩ := HE.out.place (by omega)
          obtain ⟨A', c', k0, k1, k2, hx⟩ := HE.out.at_ j hlt
          have q0 := hM'.cell k0
          have q1 := hM'.cell k1
          have q2 := hM'.cell k2
          have hjs := size_mem (List.getElem_mem hlt)
          have hjl := length_sizes e.l[j].l
          have hje := E.size_eq e.l[j]
          have hes := E.size_eq e
          have HX := Hid.mk (And.intro hx (HS2.out _ (List.getElem_mem hlt)))
          have HH := Hid.mk (And.intro hM' (And.intro hG' hK'))
          have hl1 : e.l[j].l.length ≤ 1000000 := by omega
          have hl2 : e.l[j].size ≤ 1000000 := by omega
          clear k0 k1 k2 hx hM' hG' hK' hje hes hjl hjs
          go_wp2_with fail
          obtain ⟨es2, clock2, hm2, hg2⟩ := HH.out.2.1
          refine (ih e.l[j] A' c' _ HX.out.1 HX.out.2 hl1 hl2 (HH.out.1.alloc _) ⟨es2, clock2, hm2.alloc _, hg2⟩).mono ?_
          rintro en w5 ⟨rfl, hM5, hG5, hk5⟩
          have HZ := Hid.mk (And.intro hM5 (And.intro hG5 ((HH.out.2.2.alloc _).trans hk5)))
          clear hM5 hG5 hk5 hm2 hg2
          go_wp2_with fail
          go_roundg (e.l.length - (j + 1))
          case measure => omega
          case rel => exact ⟨j + 1, by omega, rfl, by go_num, HZ.out.1, HZ.out.2.1, HZ.out.2.2⟩
        · obtain rfl : j = e.l.length := by omega
          have hnlt : ¬ ((e.l.length : Int) < (e.l.length : Int)) := by omega
          go_wp2_with fail
          go_end0
          exact ⟨rfl, hM', hG', hK'⟩
end Go.Proofs.YtgdnhlckodhhgaaGreatDoor

/-
  Whether all symbols of an expression are in an alphabet, where they are.
-/
namespace Go.Proofs.YtgdnhlckodhhgaaGreatDoor
open Go.RowKit
set_option linter.unusedVariables false
set_option linter.unusedSimpArgs false
set_option maxRecDepth 100000 in
set_option maxHeartbeats 4000000 in
theorem eknown_calls {ss : List Bs} {M : Heap} {A Ae : Option Addr} {c ce d : Nat} {e : E} (hsy : Syms (fun s => bsF ss s = true) d e) (he : ExV M e Ae ce) (hll : e.l.length ≤ 1000000) (hsz : e.size ≤ 1000000) (h : WsM M A ss) (hl : ss.length ≤ 1000000) (w : World) (hM : Mem w M) :
    Calls Tryz.prog 35 #[.agg #[.int .i64 e.op, .string (bs e.s), .slice Ae e.l.length ce], .slice A ss.length c] w fun en w' => en = .returned (.bool true) ∧ Kp [] w w' := by
  have hmm := @run_makeMap Tryz.prog
  have hb0 := (Box.new hM #[.int .i64 e.op, .string (bs e.s), .slice Ae e.l.length ce] 24).alloc (.map #[] 0)
  obtain ⟨⟨p0, p1, p2⟩, _, _, _⟩ := hb0.three
  have hsz1 : (w.alloc (.cells #[.int .i64 e.op, .string (bs e.s), .slice Ae e.l.length ce] 24)).heap.size = w.heap.size + 1 := by simp
  have hm1 := Blk.new (hM.alloc (.cells #[.int .i64 e.op, .string (bs e.s), .slice Ae e.l.length ce] 24)) (.map #[] 0)
  rw [hsz1] at hm1
  have hM1 := (hM.alloc (.cells #[.int .i64 e.op, .string (bs e.s), .slice Ae e.l.length ce] 24)).alloc (.map #[] 0)
  have hK1 := ((Kp.refl [] w).alloc (.cells #[.int .i64 e.op, .string (bs e.s), .slice Ae e.l.length ce] 24)).alloc (.map #[] 0)
  have HH := Hid.mk (And.intro hm1 (And.intro hM1 hK1))
  have HG := Hid.mk (And.intro hsy (And.intro he h))
  clear hm1 hM1 hK1 hb0 hsy he h
  go_enter Tryz.func35, Tryz.ntmps35
  go_wp2_with fail
  refine (gather_calls (gm := w.heap.size + 1) d e Ae ce _ HG.out.2.1 HG.out.1 hll hsz HH.out.2.1 ⟨#[], 0, HH.out.1, ⟨by simp, by simp⟩⟩).mono ?_
  rintro en w2 ⟨rfl, hM2, ⟨es, clock, hm2, hg2⟩, hk2⟩
  have hK2 : Kp [] w w2 := HH.out.2.2.inner hk2 (by simp)
  have hrg := run_range_map (P := Tryz.prog) w2 73 9 4 (w.heap.size + 1) es clock Tryz.underlying73 hm2.blk
  have hlt2 := hm2.lt
  have hbi := Blk.new hM2 (.mapIter (some (w.heap.size + 1)) clock #[] clock)
  have HJ := Hid.mk (And.intro (hm2.alloc (.mapIter (some (w.heap.size + 1)) clock #[] clock)) (And.intro hbi (And.intro (hM2.alloc (.mapIter (some (w.heap.size + 1)) clock #[] clock)) (hK2.alloc (.mapIter (some (w.heap.size + 1)) clock #[] clock)))))
  have HGS := Hid.mk hg2
  have hws := hK2.size
  clear hM2 hm2 hg2 hk2 hbi hmm p0 p1 p2 HH hK2
  go_wp2_with fail
  generalize hib : w2.heap.size = ib at *
  clear hrg
  go_loopg [] ((leftOf es #[]).size + 1) (fun kk wr => ∃ seen, Blk wr M (w.heap.size + 1) (.map es clock) ∧ Blk wr M ib (.mapIter (some (w.heap.size + 1)) clock seen clock) ∧ (leftOf es seen).size < kk ∧ Mem wr M ∧ Kp [] w wr)
  case atStart => exact ⟨#[], HJ.out.1, HJ.out.2.1, by omega, HJ.out.2.2.1, HJ.out.2.2.2⟩
  case round =>
    obtain ⟨seen, hbm, hbi, hleft, hM', hK⟩ := hrel
    rcases run_next (P := Tryz.prog) 0 (w.heap.size + 1) clock clock ib seen es clock hbm.blk hbi.blk (fun x hx => (HGS.out.1 x hx).2) (Nat.le_refl _) with ⟨h0, hrun⟩ | ⟨x, hem, w5, hk5, hbi5, hsz5, hrun⟩
    · go_wp2_with fail
      go_ret
      exact ⟨rfl, hK⟩
    · obtain ⟨hxe, _⟩ := mem_left hem
      obtain ⟨⟨s, hS, hsl, hkey⟩, _⟩ := HGS.out.1 x hxe
      have hbm5 := hbm.same hk5 (by simp; omega)
      have hM5 := hM'.kp hk5 (by simpa using hbi.out)
      have hen := run_entry (P := Tryz.prog) (w.heap.size + 1) clock ib seen es clock x hbm5.blk hbi5 hxe HGS.out.2
      have hshr := left_shrinks es seen x hem
      rw [hkey] at hrun hen
      have HBS := Hid.mk (BinarySearch_calls (c := c) HG.out.2.2 hl s w5 hM5)
      rw [hS] at HBS
      have HZ := Hid.mk (And.intro hbm5 (And.intro hbi5 (And.intro hbi.out (And.intro hM5 (hK.inner hk5 (by simp; omega))))))
      clear hbm hbi hM' hK hbm5 hbi5 hM5 hk5 hkey hS
      go_wp2_with (go_at_call 74; refine HBS.out.mono ?_; rintro e w' ⟨rfl, rfl⟩)
      go_roundg ((leftOf es (seen.push x.born)).size + 1)
      case measure => omega
      case rel => exact ⟨seen.push x.born, HZ.out.1, ⟨HZ.out.2.1, HZ.out.2.2.1⟩, by omega, HZ.out.2.2.2.1, HZ.out.2.2.2.2⟩
end Go.Proofs.YtgdnhlckodhhgaaGreatDoor

/-
  Plain Lean: the nodes of an expression, numbered.
-/
namespace Go.Proofs.YtgdnhlckodhhgaaGreatDoor
def symN (ss : List Bs) (op : Int) (s : Bs) : Bs := if op = 0 then (match wordK ss [s] with | some ks => toBs ks | none => []) else []
mutual
def mkN (ss : List Bs) (k : Nat) : E → Nd × Nat
  | .mk op s l => let r := mkNs ss (k + 1) l; (.mk k op (symN ss op s) r.1, r.2)
def mkNs (ss : List Bs) (k : Nat) : List E → List Nd × Nat
  | [] => ([], k)
  | e :: l => let a := mkN ss k e; let r := mkNs ss a.2 l; (a.1 :: r.1, r.2)
end
theorem mkN_eq (ss : List Bs) (k : Nat) (e : E) : mkN ss k e = (.mk k e.op (symN ss e.op e.s) (mkNs ss (k + 1) e.l).1, (mkNs ss (k + 1) e.l).2) := by
  cases e; simp [mkN, E.op, E.s, E.l]
theorem mkNs_snoc (ss : List Bs) (x : E) (l : List E) : ∀ k, mkNs ss k (l ++ [x]) = ((mkNs ss k l).1 ++ [(mkN ss (mkNs ss k l).2 x).1], (mkN ss (mkNs ss k l).2 x).2) := by
  induction l with
  | nil => intro k; simp [mkNs]
  | cons e l ih => intro k; simp [mkNs, ih]
theorem mkNs_len (ss : List Bs) (l : List E) : ∀ k, (mkNs ss k l).1.length = l.length := by
  induction l with
  | nil => intro k; simp [mkNs]
  | cons e l ih => intro k; simp [mkNs, ih]
mutual
theorem mkN_count (ss : List Bs) (k : Nat) : ∀ e : E, (mkN ss k e).2 = k + e.size
  | .mk op s l => by
    rw [E.size_eq]
    simp only [mkN, E.l]
    rw [mkNs_count ss (k + 1) l]; omega
theorem mkNs_count (ss : List Bs) (k : Nat) : ∀ l : List E, (mkNs ss k l).2 = k + sizes l
  | [] => by simp [mkNs, sizes]
  | e :: l => by
    simp only [mkNs, sizes]
    rw [mkNs_count ss _ l, mkN_count ss k e]; omega
end
end Go.Proofs.YtgdnhlckodhhgaaGreatDoor

/-
  The asker's nodes in memory: they stay, a node over its row.
-/
namespace Go.Proofs.YtgdnhlckodhhgaaGreatDoor
open Go.RowKit
set_option linter.unusedVariables false
set_option linter.unusedSimpArgs false
theorem wsm_ext {M M' : Heap} {n : Nat} {A : Option Addr} {ws : List Bs} (h : WsM M A ws) (e : Ext n M M') : WsM M' A ws := fun j hj => by
  obtain ⟨b, o, h1, h2⟩ := h j hj
  exact ⟨b, o, h1, cellM_ext e h2⟩
theorem mem_less {w : World} {M M' : Heap} {n : Nat} (h : Mem w M') (e : Ext n M M') : Mem w M := fun b o hb => h b o (e.1 b o hb)
def nodeV (k : Nat) (op : Int) (s : Bs) (v : Value) : Array Value := #[.int .i64 (k : Nat), .int .i64 op, .string (bs s), v]
def ptrs (bl : List Nat) : List Value := bl.map fun (b : Nat) => Value.pointer (some ⟨b, 0, none⟩)
theorem Tryz.infoP : (Tryz.prog.info? 67).map (fun i => (i.zero, i.size, i.bytes)) = some (some (.pointer none), 1, 8) := by kernel_rfl
theorem NdM.ext {n : Nat} {M M' : Heap} (e : Ext n M M') {b : Nat} {nd : Nd} (h : NdM M b nd) : NdM M' b nd := by
  induction h with
  | mk b num op s l A c bj hb hrow hk ih =>
    refine NdM.mk b num op s l A c bj (e.1 _ _ hb) (fun j hj => ?_) ih
    obtain ⟨bb, o, h1, h2⟩ := hrow j hj
    exact ⟨bb, o, h1, cellM_ext e h2⟩
/-- A node, its row and its cells at last taken into the memory that stays. -/
theorem node_done {w : World} {M : Heap} {b k n m : Nat} {op : Int} {s : Bs} {v : Value} {bl : List Nat} {nds : List Nd} (hB : Box w M b (nodeV k op s v) 118) (hM : Mem w M) (ho : w.ownsRow 0 67 1 v n (ptrs bl))
    (hv : ∀ x, v.ownBlock = some x → M x = none ∧ m ≤ x) (hmb : m ≤ b) (hn : nds.length = n) (hk : ∀ i, (h : i < bl.length) → (h2 : i < nds.length) → NdM M bl[i] nds[i]) :
    ∃ M', NdM M' b (.mk k op s nds) ∧ Mem w M' ∧ Ext m M M' := by
  obtain ⟨h1, h2⟩ := ho
  have hbl : bl.length = n := by simpa [ptrs] using h1
  rcases h2 with ⟨rfl, hn0⟩ | ⟨g, cap, cur, rfl, _, hg, hcap, _, _, hcur⟩
  · subst hn0
    have hnil : nds = [] := List.length_eq_zero_iff.1 hn
    subst hnil
    refine ⟨M.put b _, NdM.mk b k op s [] none 0 (fun _ => 0) Heap.put_same (fun j hj => ?_) (fun j hj => ?_), hM.put hB.blk, Ext.put hmb hB.out⟩
    · simp at hj
    · simp at hj
  · obtain ⟨hMg, hmg⟩ := hv g rfl
    have hgb : g ≠ b := by
      intro e
      subst e
      rw [hB.blk] at hg
      injection hg with hg
      injection hg with hg ht
      have := congrArg Array.size hg
      cases ht
    have hE1 : Ext m M (M.put g (.cells cur 67 (0, 0))) := Ext.put hmg hMg
    have hbo : (M.put g (.cells cur 67 (0, 0))) b = none := by rw [Heap.put_ne (Ne.symm hgb)]; exact hB.out
    have hE2 : Ext m (M.put g (.cells cur 67 (0, 0))) ((M.put g (.cells cur 67 (0, 0))).put b (.cells (nodeV k op s (.slice (some ⟨g, 0, none⟩) n cap)) 118 (0, 0))) := Ext.put hmb hbo
    have hE := hE1.trans hE2 (Nat.le_refl m)
    have hget : ∀ j, (h : j < bl.length) → cur[j]? = some (.pointer (some ⟨bl[j], 0, none⟩)) := by
      intro j hj
      have h5 : (cur.toList.take (n * 1))[j]? = some (.pointer (some ⟨bl[j], 0, none⟩)) := by
        rw [hcur]; simp [ptrs, List.getElem?_eq_getElem hj]
      rw [List.getElem?_take] at h5
      split at h5
      · simpa using h5
      · cases h5
    refine ⟨_, NdM.mk b k op s nds (some ⟨g, 0, none⟩) cap (fun j => bl.getD j 0) ?_ (fun j hj => ?_) (fun j hj => ?_), (hM.put hg).put hB.blk, hE⟩
    · rw [hn]; exact Heap.put_same
    · have hj' : j < bl.length := by omega
      refine ⟨g, 0, rfl, cellM_ext hE2 ?_⟩
      simp only [cellM, Heap.put_same, Option.isSome_none, Bool.false_eq_true, if_false, Nat.zero_add]
      rw [hget j hj']; simp [List.getD, List.getElem?_eq_getElem hj']
    · have hj' : j < bl.length := by omega
      have e9 : bl.getD j 0 = bl[j] := by simp [List.getD, List.getElem?_eq_getElem hj']
      show NdM _ (bl.getD j 0) _
      rw [e9]
      exact (hk j hj' hj).ext hE
end Go.Proofs.YtgdnhlckodhhgaaGreatDoor
