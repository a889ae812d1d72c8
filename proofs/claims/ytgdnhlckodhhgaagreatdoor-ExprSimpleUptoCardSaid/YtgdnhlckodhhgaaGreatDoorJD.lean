/-
  The program's reader: the levels between, each by its own function.
-/
import Derived.Test.YtgdnhlckodhhgaaGreatDoorJB
import Derived.Test.YtgdnhlckodhhgaaGreatDoorJA8
import Derived.Test.YtgdnhlckodhhgaaGreatDoorJC
import Derived.Defers
import Derived.Recover
import Derived.Laws.Pointers
namespace Go.Proofs.YtgdnhlckodhhgaaGreatDoor
open Go.RowKit
set_option linter.unusedVariables false
set_option maxRecDepth 100000 in
set_option maxHeartbeats 1000000 in
theorem but_spec {k : Nat} (hS : ∀ k', k' ≤ k → LvSpec 170 2 k') : LvSpec 103 1 (k + 1) := by
  intro g l r w M x hR hM hl hx
  have hx' : bx (G k (.lv (1 + 1) r)) (fun p => G k (.left 1 p.1 p.2)) = some x := by simpa only [G] using hx
  have HX := Hid.mk hx'
  clear hx hx'
  have hgw : g < w.heap.size := hR.box.lt
  have hmf : ∀ (fn : Fn) (first cap : Array Value) (w : World), (Instr.makeFunc fn first cap).run Tryz.prog w = .ok (.func fn first cap) w := fun _ _ _ _ => rfl
  have hcf : ∀ w, (callFunc 170 #[.pointer (some ⟨g, 0, none⟩)]).run Tryz.prog w = .ok (.enter 170 #[.pointer (some ⟨g, 0, none⟩)]) w := fun w => by kernel_rfl
  have HC := Hid.mk hcf
  clear hcf
  go_enter Tryz.func103, Tryz.ntmps103
  go_wp2_with fail
  refine (left_spec (n := 1) (f := 170) HC.out hS (hR.alloc _) (hM.alloc _) hl HX.out).mono ?_
  rintro e w1 ⟨hk1, he⟩
  have hb2 : (w1.heap[w.heap.size]? = some (.cells #[.int .i64 0, .string ⟨#[]⟩, .slice none 0 0] 24 (0, 0))) := (hk1.block _ (by simp) (by simp; omega)).trans (heap_alloc_new _ _)
  have hK := ((Kp.refl [g] w).alloc (.cells #[.int .i64 0, .string ⟨#[]⟩, .slice none 0 0] 24)).trans hk1
  cases x with
  | error q =>
    obtain rfl := he
    go_wp2_with fail
    exact ⟨rfl, hK, rfl⟩
  | ok y =>
    obtain ⟨a, r1⟩ := y
    obtain ⟨A1, c1, M1, rfl, hx1, hM1, he1, hR1⟩ := he
    have hb : Box w1 M1 w.heap.size #[.int .i64 0, .string ⟨#[]⟩, .slice none 0 0] 24 := ⟨hb2, he1.no hM.new (by simp)⟩
    obtain ⟨_, f0, f1, f2⟩ := hb.three
    obtain ⟨⟨p0, p1, p2⟩, _, _, _⟩ := hb.three
    have HA := Hid.mk (And.intro hb (And.intro hx1 (And.intro hM1 (And.intro (he1.low (n := w.heap.size) (by simp)) hR1))))
    clear hb2 hb hx1 hM1 he1 hR1 hk1
    go_wp2_with fail
    obtain ⟨hb, hx1, hM1, he1, hR1⟩ := HA.out
    have hk3 := Kp.set3 (b := w.heap.size) (x' := .int .i64 a.op) (y' := .string (bs a.s)) (z' := .slice A1 a.l.length c1) (Kp.refl [w.heap.size] w1) (.inl (by simp))
    obtain ⟨⟨r0, r1, r2⟩, _, _, _⟩ := (hb.set3 (x' := .int .i64 a.op) (y' := .string (bs a.s)) (z' := .slice A1 a.l.length c1)).three
    refine bodyPost_ret (v := .agg #[.int .i64 a.op, .string (bs a.s), .slice A1 a.l.length c1]) (by simp [results, Tryz.results103, go_sem, r0, r1, r2]) rfl ?_
    exact ⟨hK.inner hk3 (by simp), _, _, _, rfl, hx1, hM1.kp hk3 (by simpa using hb.out), he1, hR1.same hk3 (by simp; omega)⟩
set_option maxRecDepth 100000 in
set_option maxHeartbeats 1000000 in
theorem or_spec {k : Nat} (hS : ∀ k', k' ≤ k → LvSpec 200 3 k') : LvSpec 170 2 (k + 1) := by
  intro g l r w M x hR hM hl hx
  have hx' : bx (G k (.lv (2 + 1) r)) (fun p => G k (.all 2 [p.1] p.2)) = some x := by simpa only [G] using hx
  have HX := Hid.mk hx'
  clear hx hx'
  have hgw : g < w.heap.size := hR.box.lt
  have hmf : ∀ (fn : Fn) (first cap : Array Value) (w : World), (Instr.makeFunc fn first cap).run Tryz.prog w = .ok (.func fn first cap) w := fun _ _ _ _ => rfl
  have hcf : ∀ w, (callFunc 200 #[.pointer (some ⟨g, 0, none⟩)]).run Tryz.prog w = .ok (.enter 200 #[.pointer (some ⟨g, 0, none⟩)]) w := fun w => by kernel_rfl
  have HC := Hid.mk hcf
  clear hcf
  go_enter Tryz.func170, Tryz.ntmps170
  go_wp2_with fail
  refine (all_spec (n := 2) (f := 200) HC.out hS (hR.alloc _) (hM.alloc _) hl HX.out).mono ?_
  rintro e w1 ⟨hk1, he⟩
  have hb2 : (w1.heap[w.heap.size]? = some (.cells #[.int .i64 0, .string ⟨#[]⟩, .slice none 0 0] 24 (0, 0))) := (hk1.block _ (by simp) (by simp; omega)).trans (heap_alloc_new _ _)
  have hK := ((Kp.refl [g] w).alloc (.cells #[.int .i64 0, .string ⟨#[]⟩, .slice none 0 0] 24)).trans hk1
  cases x with
  | error q =>
    obtain rfl := he
    go_wp2_with fail
    exact ⟨rfl, hK, rfl⟩
  | ok y =>
    obtain ⟨a, r1⟩ := y
    obtain ⟨A1, c1, M1, rfl, hx1, hM1, he1, hR1⟩ := he
    have hb : Box w1 M1 w.heap.size #[.int .i64 0, .string ⟨#[]⟩, .slice none 0 0] 24 := ⟨hb2, he1.no hM.new (by simp)⟩
    obtain ⟨_, f0, f1, f2⟩ := hb.three
    obtain ⟨⟨p0, p1, p2⟩, _, _, _⟩ := hb.three
    have HA := Hid.mk (And.intro hb (And.intro hx1 (And.intro hM1 (And.intro (he1.low (n := w.heap.size) (by simp)) hR1))))
    clear hb2 hb hx1 hM1 he1 hR1 hk1
    go_wp2_with fail
    obtain ⟨hb, hx1, hM1, he1, hR1⟩ := HA.out
    have hk3 := Kp.set3 (b := w.heap.size) (x' := .int .i64 a.op) (y' := .string (bs a.s)) (z' := .slice A1 a.l.length c1) (Kp.refl [w.heap.size] w1) (.inl (by simp))
    obtain ⟨⟨r0, r1, r2⟩, _, _, _⟩ := (hb.set3 (x' := .int .i64 a.op) (y' := .string (bs a.s)) (z' := .slice A1 a.l.length c1)).three
    refine bodyPost_ret (v := .agg #[.int .i64 a.op, .string (bs a.s), .slice A1 a.l.length c1]) (by simp [results, Tryz.results170, go_sem, r0, r1, r2]) rfl ?_
    exact ⟨hK.inner hk3 (by simp), _, _, _, rfl, hx1, hM1.kp hk3 (by simpa using hb.out), he1, hR1.same hk3 (by simp; omega)⟩
set_option maxRecDepth 100000 in
set_option maxHeartbeats 1000000 in
theorem and_spec {k : Nat} (hS : ∀ k', k' ≤ k → LvSpec 222 4 k') : LvSpec 200 3 (k + 1) := by
  intro g l r w M x hR hM hl hx
  have hx' : bx (G k (.lv (3 + 1) r)) (fun p => G k (.all 3 [p.1] p.2)) = some x := by simpa only [G] using hx
  have HX := Hid.mk hx'
  clear hx hx'
  have hgw : g < w.heap.size := hR.box.lt
  have hmf : ∀ (fn : Fn) (first cap : Array Value) (w : World), (Instr.makeFunc fn first cap).run Tryz.prog w = .ok (.func fn first cap) w := fun _ _ _ _ => rfl
  have hcf : ∀ w, (callFunc 222 #[.pointer (some ⟨g, 0, none⟩)]).run Tryz.prog w = .ok (.enter 222 #[.pointer (some ⟨g, 0, none⟩)]) w := fun w => by kernel_rfl
  have HC := Hid.mk hcf
  clear hcf
  go_enter Tryz.func200, Tryz.ntmps200
  go_wp2_with fail
  refine (all_spec (n := 3) (f := 222) HC.out hS (hR.alloc _) (hM.alloc _) hl HX.out).mono ?_
  rintro e w1 ⟨hk1, he⟩
  have hb2 : (w1.heap[w.heap.size]? = some (.cells #[.int .i64 0, .string ⟨#[]⟩, .slice none 0 0] 24 (0, 0))) := (hk1.block _ (by simp) (by simp; omega)).trans (heap_alloc_new _ _)
  have hK := ((Kp.refl [g] w).alloc (.cells #[.int .i64 0, .string ⟨#[]⟩, .slice none 0 0] 24)).trans hk1
  cases x with
  | error q =>
    obtain rfl := he
    go_wp2_with fail
    exact ⟨rfl, hK, rfl⟩
  | ok y =>
    obtain ⟨a, r1⟩ := y
    obtain ⟨A1, c1, M1, rfl, hx1, hM1, he1, hR1⟩ := he
    have hb : Box w1 M1 w.heap.size #[.int .i64 0, .string ⟨#[]⟩, .slice none 0 0] 24 := ⟨hb2, he1.no hM.new (by simp)⟩
    obtain ⟨_, f0, f1, f2⟩ := hb.three
    obtain ⟨⟨p0, p1, p2⟩, _, _, _⟩ := hb.three
    have HA := Hid.mk (And.intro hb (And.intro hx1 (And.intro hM1 (And.intro (he1.low (n := w.heap.size) (by simp)) hR1))))
    clear hb2 hb hx1 hM1 he1 hR1 hk1
    go_wp2_with fail
    obtain ⟨hb, hx1, hM1, he1, hR1⟩ := HA.out
    have hk3 := Kp.set3 (b := w.heap.size) (x' := .int .i64 a.op) (y' := .string (bs a.s)) (z' := .slice A1 a.l.length c1) (Kp.refl [w.heap.size] w1) (.inl (by simp))
    obtain ⟨⟨r0, r1, r2⟩, _, _, _⟩ := (hb.set3 (x' := .int .i64 a.op) (y' := .string (bs a.s)) (z' := .slice A1 a.l.length c1)).three
    refine bodyPost_ret (v := .agg #[.int .i64 a.op, .string (bs a.s), .slice A1 a.l.length c1]) (by simp [results, Tryz.results200, go_sem, r0, r1, r2]) rfl ?_
    exact ⟨hK.inner hk3 (by simp), _, _, _, rfl, hx1, hM1.kp hk3 (by simpa using hb.out), he1, hR1.same hk3 (by simp; omega)⟩
set_option maxRecDepth 100000 in
set_option maxHeartbeats 1000000 in
theorem shuffle_spec {k : Nat} (hS : ∀ k', k' ≤ k → LvSpec 240 5 k') : LvSpec 222 4 (k + 1) := by
  intro g l r w M x hR hM hl hx
  have hx' : bx (G k (.lv (4 + 1) r)) (fun p => G k (.left 4 p.1 p.2)) = some x := by simpa only [G] using hx
  have HX := Hid.mk hx'
  clear hx hx'
  have hgw : g < w.heap.size := hR.box.lt
  have hmf : ∀ (fn : Fn) (first cap : Array Value) (w : World), (Instr.makeFunc fn first cap).run Tryz.prog w = .ok (.func fn first cap) w := fun _ _ _ _ => rfl
  have hcf : ∀ w, (callFunc 240 #[.pointer (some ⟨g, 0, none⟩)]).run Tryz.prog w = .ok (.enter 240 #[.pointer (some ⟨g, 0, none⟩)]) w := fun w => by kernel_rfl
  have HC := Hid.mk hcf
  clear hcf
  go_enter Tryz.func222, Tryz.ntmps222
  go_wp2_with fail
  refine (left_spec (n := 4) (f := 240) HC.out hS (hR.alloc _) (hM.alloc _) hl HX.out).mono ?_
  rintro e w1 ⟨hk1, he⟩
  have hb2 : (w1.heap[w.heap.size]? = some (.cells #[.int .i64 0, .string ⟨#[]⟩, .slice none 0 0] 24 (0, 0))) := (hk1.block _ (by simp) (by simp; omega)).trans (heap_alloc_new _ _)
  have hK := ((Kp.refl [g] w).alloc (.cells #[.int .i64 0, .string ⟨#[]⟩, .slice none 0 0] 24)).trans hk1
  cases x with
  | error q =>
    obtain rfl := he
    go_wp2_with fail
    exact ⟨rfl, hK, rfl⟩
  | ok y =>
    obtain ⟨a, r1⟩ := y
    obtain ⟨A1, c1, M1, rfl, hx1, hM1, he1, hR1⟩ := he
    have hb : Box w1 M1 w.heap.size #[.int .i64 0, .string ⟨#[]⟩, .slice none 0 0] 24 := ⟨hb2, he1.no hM.new (by simp)⟩
    obtain ⟨_, f0, f1, f2⟩ := hb.three
    obtain ⟨⟨p0, p1, p2⟩, _, _, _⟩ := hb.three
    have HA := Hid.mk (And.intro hb (And.intro hx1 (And.intro hM1 (And.intro (he1.low (n := w.heap.size) (by simp)) hR1))))
    clear hb2 hb hx1 hM1 he1 hR1 hk1
    go_wp2_with fail
    obtain ⟨hb, hx1, hM1, he1, hR1⟩ := HA.out
    have hk3 := Kp.set3 (b := w.heap.size) (x' := .int .i64 a.op) (y' := .string (bs a.s)) (z' := .slice A1 a.l.length c1) (Kp.refl [w.heap.size] w1) (.inl (by simp))
    obtain ⟨⟨r0, r1, r2⟩, _, _, _⟩ := (hb.set3 (x' := .int .i64 a.op) (y' := .string (bs a.s)) (z' := .slice A1 a.l.length c1)).three
    refine bodyPost_ret (v := .agg #[.int .i64 a.op, .string (bs a.s), .slice A1 a.l.length c1]) (by simp [results, Tryz.results222, go_sem, r0, r1, r2]) rfl ?_
    exact ⟨hK.inner hk3 (by simp), _, _, _, rfl, hx1, hM1.kp hk3 (by simpa using hb.out), he1, hR1.same hk3 (by simp; omega)⟩
set_option maxRecDepth 100000 in
set_option maxHeartbeats 1000000 in
theorem ignore_spec {k : Nat} (hS : ∀ k', k' ≤ k → LvSpec 256 6 k') : LvSpec 240 5 (k + 1) := by
  intro g l r w M x hR hM hl hx
  have hx' : bx (G k (.lv (5 + 1) r)) (fun p => G k (.left 5 p.1 p.2)) = some x := by simpa only [G] using hx
  have HX := Hid.mk hx'
  clear hx hx'
  have hgw : g < w.heap.size := hR.box.lt
  have hmf : ∀ (fn : Fn) (first cap : Array Value) (w : World), (Instr.makeFunc fn first cap).run Tryz.prog w = .ok (.func fn first cap) w := fun _ _ _ _ => rfl
  have hcf : ∀ w, (callFunc 256 #[.pointer (some ⟨g, 0, none⟩)]).run Tryz.prog w = .ok (.enter 256 #[.pointer (some ⟨g, 0, none⟩)]) w := fun w => by kernel_rfl
  have HC := Hid.mk hcf
  clear hcf
  go_enter Tryz.func240, Tryz.ntmps240
  go_wp2_with fail
  refine (left_spec (n := 5) (f := 256) HC.out hS (hR.alloc _) (hM.alloc _) hl HX.out).mono ?_
  rintro e w1 ⟨hk1, he⟩
  have hb2 : (w1.heap[w.heap.size]? = some (.cells #[.int .i64 0, .string ⟨#[]⟩, .slice none 0 0] 24 (0, 0))) := (hk1.block _ (by simp) (by simp; omega)).trans (heap_alloc_new _ _)
  have hK := ((Kp.refl [g] w).alloc (.cells #[.int .i64 0, .string ⟨#[]⟩, .slice none 0 0] 24)).trans hk1
  cases x with
  | error q =>
    obtain rfl := he
    go_wp2_with fail
    exact ⟨rfl, hK, rfl⟩
  | ok y =>
    obtain ⟨a, r1⟩ := y
    obtain ⟨A1, c1, M1, rfl, hx1, hM1, he1, hR1⟩ := he
    have hb : Box w1 M1 w.heap.size #[.int .i64 0, .string ⟨#[]⟩, .slice none 0 0] 24 := ⟨hb2, he1.no hM.new (by simp)⟩
    obtain ⟨_, f0, f1, f2⟩ := hb.three
    obtain ⟨⟨p0, p1, p2⟩, _, _, _⟩ := hb.three
    have HA := Hid.mk (And.intro hb (And.intro hx1 (And.intro hM1 (And.intro (he1.low (n := w.heap.size) (by simp)) hR1))))
    clear hb2 hb hx1 hM1 he1 hR1 hk1
    go_wp2_with fail
    obtain ⟨hb, hx1, hM1, he1, hR1⟩ := HA.out
    have hk3 := Kp.set3 (b := w.heap.size) (x' := .int .i64 a.op) (y' := .string (bs a.s)) (z' := .slice A1 a.l.length c1) (Kp.refl [w.heap.size] w1) (.inl (by simp))
    obtain ⟨⟨r0, r1, r2⟩, _, _, _⟩ := (hb.set3 (x' := .int .i64 a.op) (y' := .string (bs a.s)) (z' := .slice A1 a.l.length c1)).three
    refine bodyPost_ret (v := .agg #[.int .i64 a.op, .string (bs a.s), .slice A1 a.l.length c1]) (by simp [results, Tryz.results240, go_sem, r0, r1, r2]) rfl ?_
    exact ⟨hK.inner hk3 (by simp), _, _, _, rfl, hx1, hM1.kp hk3 (by simpa using hb.out), he1, hR1.same hk3 (by simp; omega)⟩
end Go.Proofs.YtgdnhlckodhhgaaGreatDoor

/-
  The program's reader: all levels together.
-/
namespace Go.Proofs.YtgdnhlckodhhgaaGreatDoor
open Go.RowKit
theorem Lv0 (f n : Nat) : LvSpec f n 0 := by
  intro g l r w M x _ _ _ h
  simp [G] at h
theorem levels (k : Nat) : LvSpec 63 0 k ∧ LvSpec 103 1 k ∧ LvSpec 170 2 k ∧ LvSpec 200 3 k ∧ LvSpec 222 4 k ∧ LvSpec 240 5 k ∧ LvSpec 256 6 k ∧ LvSpec 263 7 k ∧ LvSpec 266 8 k := by
  induction k using Nat.strongRecOn with
  | _ k ih =>
    cases k with
    | zero => exact ⟨Lv0 _ _, Lv0 _ _, Lv0 _ _, Lv0 _ _, Lv0 _ _, Lv0 _ _, Lv0 _ _, Lv0 _ _, Lv0 _ _⟩
    | succ k =>
      have h := fun k' (hk : k' ≤ k) => ih k' (by omega)
      refine ⟨?_, but_spec (fun k' hk => (h k' hk).2.2.1), or_spec (fun k' hk => (h k' hk).2.2.2.1), and_spec (fun k' hk => (h k' hk).2.2.2.2.1), shuffle_spec (fun k' hk => (h k' hk).2.2.2.2.2.1), ignore_spec (fun k' hk => (h k' hk).2.2.2.2.2.2.1), ?_, ?_, ?_⟩
      · intro g l r w M x hR hM hl hx
        exact only_spec (fun k' hk => (h k' hk).2.1) hR hM hl hx
      · intro g l r w M x hR hM hl hx
        exact chain_spec (fun k' hk => (h k' hk).2.2.2.2.2.2.2.1) hR hM hl (by simpa only [G] using hx)
      · intro g l r w M x hR hM hl hx
        exact ahead_spec (fun k' hk => (h k' hk).2.2.2.2.2.2.2.1) (fun k' hk => (h k' hk).2.2.2.2.2.2.2.2) hR hM hl hx
      · intro g l r w M x hR hM hl hx
        exact atom_spec (fun k' hk => (h k' hk).1) hR hM hl hx
theorem only_calls (k : Nat) : LvSpec 63 0 k := (levels k).1
end Go.Proofs.YtgdnhlckodhhgaaGreatDoor

/-
  The program's reader: a text read whole; what is wrong leaves by a panic that the deferred closure takes up.
-/
namespace Go.Proofs.YtgdnhlckodhhgaaGreatDoor
open Go.RowKit
set_option linter.unusedVariables false
set_option linter.unusedSimpArgs false
theorem assert_wrong (v : Value) (w : World) : (Instr.typeAssert (.iface 98 v) 20 98 true).run Tryz.prog w = .ok (.tuple #[v, .bool true]) w := by
  simp [Instr.typeAssert, go_sem, Tryz.underlying98]
theorem assert_nil (w : World) : (Instr.typeAssert .nilIface 20 98 true).run Tryz.prog w = .ok (.tuple #[.agg #[.int .i64 0], .bool false]) w := by
  simp [Instr.typeAssert, go_sem, Tryz.underlying98]
set_option maxRecDepth 100000 in
set_option maxHeartbeats 1000000 in
theorem catch_idle (b b1 b2 : Nat) (w : World)  :
    CallsD Tryz.prog 62 #[.pointer (some ⟨b, 0, none⟩), .pointer (some ⟨b1, 0, none⟩), .pointer (some ⟨b2, 0, none⟩)] .returning w fun e u' w' =>
      e = .returned (.tuple #[]) ∧ u' = .returning ∧ Kp [] w w' := by
  have h2 := assert_nil
  refine callsD_of_wpS Tryz.func62 rfl fun c₀ cs hu => ?_
  apply wpS_seq
  apply wpS_region
  simp [wpOpsS, go_sem, recoverD, hu, Exit.thenS, h2]
  apply wpS_seq
  apply wpS_region
  simp [wpOpsS, go_sem, Exit.thenS]
  refine wpS_cond (t := false) (by simp [Act.eval, Array.replicate]) ?_
  simp only [Bool.false_eq_true, if_false]
  refine wpS_of_wp (wp_skip ?_)
  cases c₀
  simp_all [bodyPostS, results, Tryz.results62]
  exact (Kp.refl _ _).alloc _
theorem wp_tmps {P : Program} {c : Code} {Q : Exit → Act → World → Prop} {t t' : Array Value} {d : List Deferred} {w : World} (h : t = t') (k : Code.wp P c Q { tmps := t', defers := d } w) : Code.wp P c Q { tmps := t, defers := d } w := h ▸ k
/-- What the named results hold: of an expression, of a number, of an error. -/
def Outs (w : World) (M : Heap) (b b1 b2 : Nat) (x y z : Value) (n m : Int) : Prop :=
  Box w M b #[x, y, z] 24 ∧ Box w M b1 #[.int .i64 n] 3 ∧ Box w M b2 #[.int .i64 m] 29
set_option maxRecDepth 100000 in
set_option maxHeartbeats 4000000 in
theorem catch_wrong (b b1 b2 : Nat) (w : World) (M : Heap) (p : Int) (x y z : Value) (n m : Int) (h01 : b ≠ b1) (h02 : b ≠ b2) (h12 : b1 ≠ b2) (h : Outs w M b b1 b2 x y z n m) :
    CallsD Tryz.prog 62 #[.pointer (some ⟨b, 0, none⟩), .pointer (some ⟨b1, 0, none⟩), .pointer (some ⟨b2, 0, none⟩)] (.panicking [{ v := .iface 98 (.agg #[.int .i64 p]), recovered := false }]) w fun e u' w' =>
      e = .returned (.tuple #[]) ∧ u' = .panicking [{ v := .iface 98 (.agg #[.int .i64 p]), recovered := true }] ∧ Kp [b, b1, b2] w w' ∧ Outs w' M b b1 b2 (.int .i64 0) (.string ⟨#[]⟩) (.slice none 0 0) p 2 := by
  have h2 := assert_wrong
  refine callsD_of_wpS Tryz.func62 rfl fun c₀ cs hu => ?_
  apply wpS_seq
  apply wpS_region
  simp [wpOpsS, go_sem, recoverD, hu, Exit.thenS, h2]
  apply wpS_seq
  apply wpS_region
  simp [wpOpsS, go_sem, Exit.thenS]
  refine wpS_cond (t := true) (by simp [Act.eval, Array.replicate]) ?_
  simp only [if_true]
  refine wpS_of_wp ?_
  have hB0 := h.1.alloc (.cells #[.int .i64 p] 98)
  have hB1 := h.2.1.alloc (.cells #[.int .i64 p] 98)
  have hB2 := h.2.2.alloc (.cells #[.int .i64 p] 98)
  have hk := (Kp.refl [b, b1, b2] w).alloc (.cells #[.int .i64 p] 98)
  have hc : (w.alloc (.cells #[.int .i64 p] 98)).cell? ⟨w.heap.size, 0, none⟩ = some (.int .i64 p) := by
    have hh := heap_alloc_new w (.cells #[.int .i64 p] 98)
    simp only [World.cell?, hh]
    rfl
  have n0 : b ≠ w.heap.size := by have := h.1.lt; omega
  have n1 : b1 ≠ w.heap.size := by have := h.2.1.lt; omega
  have n2 : b2 ≠ w.heap.size := by have := h.2.2.lt; omega
  obtain ⟨⟨q0, q1, q2⟩, e0, e1, e2⟩ := hB0.three
  have q3 : (w.alloc (.cells #[.int .i64 p] 98)).cell? ⟨b1, 0, none⟩ = some (.int .i64 n) := hB1.cell 0
  have q4 : (w.alloc (.cells #[.int .i64 p] 98)).cell? ⟨b2, 0, none⟩ = some (.int .i64 m) := hB2.cell 0
  have e3 := hB1.free 0
  have e4 := hB2.free 0
  have HB := Hid.mk (And.intro hB0 (And.intro hB1 (And.intro hB2 hk)))
  clear hB0 hB1 hB2 hk h
  refine wp_tmps (t' := #[.pointer (some ⟨b, 0, none⟩), .pointer (some ⟨b1, 0, none⟩), .pointer (some ⟨b2, 0, none⟩), .pointer (some ⟨w.heap.size, 0, none⟩), .bool true, .tuple #[.agg #[.int .i64 p], .bool true], .iface 98 (.agg #[.int .i64 p]), .tuple #[.agg #[.int .i64 p], .bool true], .agg #[.int .i64 p], .bool true, .bool true, undef, undef, undef]) (by kernel_rfl) ?_
  clear h2 hu
  generalize w.alloc (.cells #[.int .i64 p] 98) = W at *
  generalize hn : w.heap.size = N at *
  go_region
  obtain ⟨B0, B1, B2, hk⟩ := HB.out
  refine ⟨rfl, _, rfl, .tuple #[], by simp [results, Tryz.results62, go_sem], rfl, rfl, ?_, ?_, ?_, ?_⟩
  · exact (((hk.set3 (.inl (by simp))).setCell (.inl (by simp)) _).setCell (.inl (by simp)) _).drew
  · exact (((B0.set3).far h01 _).far h02 _).drew
  · exact (((((B1.far (Ne.symm h01) _).far (Ne.symm h01) _).far (Ne.symm h01) _).set 0 _).far h12 _).drew
  · exact (((((B2.far (Ne.symm h02) _).far (Ne.symm h02) _).far (Ne.symm h02) _).far (Ne.symm h12) _).set 0 _).drew
end Go.Proofs.YtgdnhlckodhhgaaGreatDoor

/-
  The program's reader: a text read whole: the walk of Parse.
-/
namespace Go.Proofs.YtgdnhlckodhhgaaGreatDoor
open Go.RowKit
set_option linter.unusedVariables false
set_option linter.unusedSimpArgs false
def zeroE : E := .mk 0 [] []
/-- What is told of a text that G answers so. -/
def outc (s : Bs) (x : Ex (E × Bs)) : E × Int × Int := match x with
  | .error q => (zeroE, (at_ s q : Nat), 2)
  | .ok (a, r) => match tk (sk r) with
    | none => (zeroE, (at_ s (sk r) : Nat), 2)
    | some u => if u = [] then (if verdict a = 0 then (a, 0, 0) else (zeroE, 0, verdict a)) else (zeroE, (at_ s (sk r) : Nat), 2)
/-- How Parse ends. -/
def PEnd (w : World) (M : Heap) (o : E × Int × Int) (e : Ending) (w' : World) : Prop :=
  ∃ A c M', e = .returned (.tuple #[.agg #[.int .i64 o.1.op, .string (bs o.1.s), .slice A o.1.l.length c], .int .i64 o.2.1, .int .i64 o.2.2]) ∧ ExV M' o.1 A c ∧ Mem w' M' ∧ Ext w.heap.size M M' ∧ Kp [] w w'
theorem exv_zero (M : Heap) : ExV M zeroE none 0 := ExV.leaf _ _ _ _ _
abbrev O25 : Obj := .cells #[.int .i64 0, .string ⟨#[]⟩, .slice none 0 0] 24
abbrev O3 : Obj := .cells #[.int .i64 0] 3
abbrev O26 : Obj := .cells #[.int .i64 0] 29
theorem Outs.none {w : World} {M : Heap} {b b1 b2 : Nat} {x y z : Value} {n m : Int} (h : Outs w M b b1 b2 x y z n m) : ∀ x, x ∈ [b, b1, b2] → M x = none := by
  intro x hx
  simp at hx
  rcases hx with rfl | rfl | rfl
  · exact h.1.out
  · exact h.2.1.out
  · exact h.2.2.out
theorem begin_at (w : World) (M : Heap) (s : Bs) (hM : Mem w M) :
    let W := (((w.alloc O25).alloc O3).alloc O26).alloc (.cells #[.string (bs s), .int .i64 0] 102)
    Mem W M ∧ Rd W M (w.heap.size + 1 + 1 + 1) s s ∧ Outs W M w.heap.size (w.heap.size + 1) (w.heap.size + 1 + 1) (.int .i64 0) (.string ⟨#[]⟩) (.slice none 0 0) 0 0 ∧ Kp [] w W := by
  have s1 : (w.alloc O25).heap.size = w.heap.size + 1 := by simp
  have s2 : ((w.alloc O25).alloc O3).heap.size = w.heap.size + 1 + 1 := by simp
  have s3 : (((w.alloc O25).alloc O3).alloc O26).heap.size = w.heap.size + 1 + 1 + 1 := by simp
  have m1 := hM.alloc O25
  have m2 := m1.alloc O3
  have m3 := m2.alloc O26
  have b0 := Box.new hM #[.int .i64 0, .string ⟨#[]⟩, .slice none 0 0] 24
  have b1 := Box.new m1 #[.int .i64 0] 3
  have b2 := Box.new m2 #[.int .i64 0] 29
  have b3 := Box.new m3 #[.string (bs s), .int .i64 0] 102
  rw [s1] at b1
  rw [s2] at b2
  rw [s3] at b3
  exact ⟨m3.alloc _, Rd.mk' b3 (List.suffix_refl _) (by simp [at_]), ⟨((b0.alloc _).alloc _).alloc _, (b1.alloc _).alloc _, b2.alloc _⟩, ((((Kp.refl [] w).alloc _).alloc _).alloc _).alloc _⟩
set_option maxRecDepth 100000 in
set_option maxHeartbeats 2000000 in
theorem Parse_err {k : Nat} {s q : Bs} {w : World} {M : Heap} (hM : Mem w M) (hl : s.length ≤ 6000) (hx : G k (.lv 0 s) = some (.error q)) :
    Calls Tryz.prog 30 #[.string (bs s)] w (PEnd w M (zeroE, (at_ s q : Nat), 2)) := by
  have hmf : ∀ (fn : Fn) (first cap : Array Value) (w : World), (Instr.makeFunc fn first cap).run Tryz.prog w = .ok (.func fn first cap) w := fun _ _ _ _ => rfl
  have H1 := Hid.mk hx
  have hz := bs_size s
  have HB := Hid.mk (begin_at w M s hM)
  clear hx
  go_enter_defers Tryz.func30, Tryz.ntmps30
  go_wp2_with fail
  refine ((only_calls k).err HB.out.2.1 HB.out.1 hl H1.out).mono ?_
  rintro e w1 ⟨rfl, hk1⟩
  obtain ⟨hM4, hR, ho, hK⟩ := HB.out
  have ho1 : Outs w1 M w.heap.size (w.heap.size + 1) (w.heap.size + 1 + 1) (.int .i64 0) (.string ⟨#[]⟩) (.slice none 0 0) 0 0 := ⟨ho.1.same hk1 (by simp; omega), ho.2.1.same hk1 (by simp), ho.2.2.same hk1 (by simp)⟩
  have hM1 := hM4.kp hk1 (by simpa using hR.box.out)
  have hK1 := hK.inner hk1 (by simp; omega)
  clear HB
  refine leaves_cons (f := 62) (args := #[.pointer (some ⟨w.heap.size, 0, none⟩), .pointer (some ⟨w.heap.size + 1, 0, none⟩), .pointer (some ⟨w.heap.size + 1 + 1, 0, none⟩)]) (by simp) (by simp [go_sem]) ?_
  refine (catch_wrong _ _ _ w1 M (at_ s q : Nat) _ _ _ 0 0 (by omega) (by omega) (by omega) ho1).mono ?_
  rintro e u' w2 ⟨rfl, rfl, hk2, ho2⟩
  obtain ⟨⟨r0, r1, r2⟩, _, _, _⟩ := ho2.1.three
  have r3 : w2.cell? ⟨w.heap.size + 1, 0, none⟩ = some (.int .i64 (at_ s q : Nat)) := ho2.2.1.cell 0
  have r4 : w2.cell? ⟨w.heap.size + 1 + 1, 0, none⟩ = some (.int .i64 2) := ho2.2.2.cell 0
  have hP : PEnd w M (zeroE, (at_ s q : Nat), 2) (.returned (.tuple #[.agg #[.int .i64 0, .string ⟨#[]⟩, .slice none 0 0], .int .i64 (at_ s q : Nat), .int .i64 2])) w2 :=
    ⟨none, 0, M, rfl, exv_zero M, hM1.kp hk2 ho1.none, Ext.refl _ _, hK1.inner hk2 (by simp; omega)⟩
  show Leaves _ _ _ _ _ _ _
  simp [Leaves, settle, results, Tryz.results30, go_sem, r0, r1, r2, r3, r4]
  exact hP
end Go.Proofs.YtgdnhlckodhhgaaGreatDoor
