/-
  The program's reader: a text read whole: the other ends of Parse.
-/
import Derived.Test.YtgdnhlckodhhgaaGreatDoorJD
import Derived.Test.YtgdnhlckodhhgaaGreatDoorJC
namespace Go.Proofs.YtgdnhlckodhhgaaGreatDoor
open Go.RowKit
set_option linter.unusedVariables false
set_option linter.unusedSimpArgs false
set_option maxRecDepth 100000 in
set_option maxHeartbeats 4000000 in
theorem Parse_bad {k : Nat} {s r : Bs} {a : E} {w : World} {M : Heap} (hM : Mem w M) (hl : s.length ≤ 6000) (hx : G k (.lv 0 s) = some (.ok (a, r))) (ht : tk (sk r) = none) :
    Calls Tryz.prog 30 #[.string (bs s)] w (PEnd w M (zeroE, (at_ s (sk r) : Nat), 2)) := by
  have hmf : ∀ (fn : Fn) (first cap : Array Value) (w : World), (Instr.makeFunc fn first cap).run Tryz.prog w = .ok (.func fn first cap) w := fun _ _ _ _ => rfl
  have H1 := Hid.mk hx
  have hz := bs_size s
  have HB := Hid.mk (begin_at w M s hM)
  have HT := Hid.mk ht
  clear ht
  clear hx
  go_enter_defers Tryz.func30, Tryz.ntmps30
  go_wp2_with fail
  refine ((only_calls k).ok HB.out.2.1 HB.out.1 hl H1.out).mono ?_
  rintro e w1 ⟨A1, c1, M1, rfl, hxa, hM1, he1, hR1, hk1⟩
  obtain ⟨hM4, hR, ho, hK⟩ := HB.out
  have he1' := he1.low (n := w.heap.size) hK.size
  have hsz4 : w.heap.size + 1 + 1 + 1 + 1 ≤ w1.heap.size := by have := hk1.size; simp at this; omega
  have ho1 : Outs w1 M1 w.heap.size (w.heap.size + 1) (w.heap.size + 1 + 1) (.int .i64 0) (.string ⟨#[]⟩) (.slice none 0 0) 0 0 := ⟨ho.1.kp hk1 (by simp; omega) he1 (by simp; omega), ho.2.1.kp hk1 (by simp) he1 (by simp), ho.2.2.kp hk1 (by simp) he1 (by simp)⟩
  have hK1 := hK.inner hk1 (by simp; omega)
  clear HB hM4 hR ho hk1 hK he1
  obtain ⟨_, f0, f1, f2⟩ := ho1.1.three
  obtain ⟨⟨p0, p1, p2⟩, _, _, _⟩ := ho1.1.three
  have HA := Hid.mk (And.intro hxa (And.intro hM1 (And.intro he1' (And.intro hR1 (And.intro ho1 hK1)))))
  clear hxa hM1 he1' hR1 ho1 hK1
  go_wp2_with fail
  obtain ⟨hxa, hM1, he1, hR1, ho1, hK1⟩ := HA.out
  have hk2 := Kp.set3 (b := w.heap.size) (x' := .int .i64 a.op) (y' := .string (bs a.s)) (z' := .slice A1 a.l.length c1) (Kp.refl [w.heap.size] w1) (.inl (by simp))
  have ho2 : Outs (((w1.setCell ⟨w.heap.size, 0, none⟩ (.int .i64 a.op)).setCell ⟨w.heap.size, 1, none⟩ (.string (bs a.s))).setCell ⟨w.heap.size, 2, none⟩ (.slice A1 a.l.length c1)) M1 w.heap.size (w.heap.size + 1) (w.heap.size + 1 + 1) (.int .i64 a.op) (.string (bs a.s)) (.slice A1 a.l.length c1) 0 0 := ⟨ho1.1.set3, ho1.2.1.same hk2 (by simp), ho1.2.2.same hk2 (by simp; omega)⟩
  have hR2 := hR1.same hk2 (by simp; omega)
  have hM2 := hM1.kp hk2 (by simpa using ho1.1.out)
  have hK2 := hK1.inner hk2 (by simp)
  have hs2 := hk2.size
  clear HA hM1 hR1 ho1 hK1 hk2 f0 f1 f2 p0 p1 p2
  generalize (((w1.setCell ⟨w.heap.size, 0, none⟩ (.int .i64 a.op)).setCell ⟨w.heap.size, 1, none⟩ (.string (bs a.s))).setCell ⟨w.heap.size, 2, none⟩ (.slice A1 a.l.length c1)) = w2 at *
  refine (token_no hR2 hl HT.out).mono ?_
  rintro e w3 ⟨rfl, hR3, hk3⟩
  have ho3 : Outs w3 M1 w.heap.size (w.heap.size + 1) (w.heap.size + 1 + 1) (.int .i64 a.op) (.string (bs a.s)) (.slice A1 a.l.length c1) 0 0 := ⟨ho2.1.same hk3 (by simp; omega), ho2.2.1.same hk3 (by simp), ho2.2.2.same hk3 (by simp)⟩
  have hM3 := hM2.kp hk3 (by simpa using hR2.box.out)
  have hK3 := hK2.inner hk3 (by simp; omega)
  refine leaves_cons (f := 62) (args := #[.pointer (some ⟨w.heap.size, 0, none⟩), .pointer (some ⟨w.heap.size + 1, 0, none⟩), .pointer (some ⟨w.heap.size + 1 + 1, 0, none⟩)]) (by simp) (by simp [go_sem]) ?_
  refine (catch_wrong _ _ _ w3 M1 (at_ s (sk r) : Nat) _ _ _ 0 0 (by omega) (by omega) (by omega) ho3).mono ?_
  rintro e u' w4 ⟨rfl, rfl, hk4, ho4⟩
  obtain ⟨⟨r0, r1, r2⟩, _, _, _⟩ := ho4.1.three
  have r3 : w4.cell? ⟨w.heap.size + 1, 0, none⟩ = some (.int .i64 (at_ s (sk r) : Nat)) := ho4.2.1.cell 0
  have r4 : w4.cell? ⟨w.heap.size + 1 + 1, 0, none⟩ = some (.int .i64 2) := ho4.2.2.cell 0
  have hP : PEnd w M (zeroE, (at_ s (sk r) : Nat), 2) (.returned (.tuple #[.agg #[.int .i64 0, .string ⟨#[]⟩, .slice none 0 0], .int .i64 (at_ s (sk r) : Nat), .int .i64 2])) w4 :=
    ⟨none, 0, M1, rfl, exv_zero M1, hM3.kp hk4 ho3.none, he1, hK3.inner hk4 (by simp; omega)⟩
  show Leaves _ _ _ _ _ _ _
  simp [Leaves, settle, results, Tryz.results30, go_sem, r0, r1, r2, r3, r4]
  exact hP
set_option maxRecDepth 100000 in
set_option maxHeartbeats 4000000 in
theorem Parse_rest {k : Nat} {s r : Bs} {a : E} {w : World} {M : Heap} (hM : Mem w M) (hl : s.length ≤ 6000) (hx : G k (.lv 0 s) = some (.ok (a, r))) {u : Bs} (ht : tk (sk r) = some u) (hu : u ≠ []) :
    Calls Tryz.prog 30 #[.string (bs s)] w (PEnd w M (zeroE, (at_ s (sk r) : Nat), 2)) := by
  have hmf : ∀ (fn : Fn) (first cap : Array Value) (w : World), (Instr.makeFunc fn first cap).run Tryz.prog w = .ok (.func fn first cap) w := fun _ _ _ _ => rfl
  have H1 := Hid.mk hx
  have hz := bs_size s
  have HB := Hid.mk (begin_at w M s hM)
  have HT := Hid.mk ht
  clear ht
  have n1 : u.isEmpty = false := by cases u with
    | nil => exact absurd rfl hu
    | cons c t => rfl
  have hut := bs_toList u
  clear hu
  clear hx
  go_enter_defers Tryz.func30, Tryz.ntmps30
  go_wp2_with fail
  refine ((only_calls k).ok HB.out.2.1 HB.out.1 hl H1.out).mono ?_
  rintro e w1 ⟨A1, c1, M1, rfl, hxa, hM1, he1, hR1, hk1⟩
  obtain ⟨hM4, hR, ho, hK⟩ := HB.out
  have he1' := he1.low (n := w.heap.size) hK.size
  have hsz4 : w.heap.size + 1 + 1 + 1 + 1 ≤ w1.heap.size := by have := hk1.size; simp at this; omega
  have ho1 : Outs w1 M1 w.heap.size (w.heap.size + 1) (w.heap.size + 1 + 1) (.int .i64 0) (.string ⟨#[]⟩) (.slice none 0 0) 0 0 := ⟨ho.1.kp hk1 (by simp; omega) he1 (by simp; omega), ho.2.1.kp hk1 (by simp) he1 (by simp), ho.2.2.kp hk1 (by simp) he1 (by simp)⟩
  have hK1 := hK.inner hk1 (by simp; omega)
  clear HB hM4 hR ho hk1 hK he1
  obtain ⟨_, f0, f1, f2⟩ := ho1.1.three
  obtain ⟨⟨p0, p1, p2⟩, _, _, _⟩ := ho1.1.three
  have HA := Hid.mk (And.intro hxa (And.intro hM1 (And.intro he1' (And.intro hR1 (And.intro ho1 hK1)))))
  clear hxa hM1 he1' hR1 ho1 hK1
  go_wp2_with fail
  obtain ⟨hxa, hM1, he1, hR1, ho1, hK1⟩ := HA.out
  have hk2 := Kp.set3 (b := w.heap.size) (x' := .int .i64 a.op) (y' := .string (bs a.s)) (z' := .slice A1 a.l.length c1) (Kp.refl [w.heap.size] w1) (.inl (by simp))
  have ho2 : Outs (((w1.setCell ⟨w.heap.size, 0, none⟩ (.int .i64 a.op)).setCell ⟨w.heap.size, 1, none⟩ (.string (bs a.s))).setCell ⟨w.heap.size, 2, none⟩ (.slice A1 a.l.length c1)) M1 w.heap.size (w.heap.size + 1) (w.heap.size + 1 + 1) (.int .i64 a.op) (.string (bs a.s)) (.slice A1 a.l.length c1) 0 0 := ⟨ho1.1.set3, ho1.2.1.same hk2 (by simp), ho1.2.2.same hk2 (by simp; omega)⟩
  have hR2 := hR1.same hk2 (by simp; omega)
  have hM2 := hM1.kp hk2 (by simpa using ho1.1.out)
  have hK2 := hK1.inner hk2 (by simp)
  have hs2 := hk2.size
  clear HA hM1 hR1 ho1 hK1 hk2 f0 f1 f2 p0 p1 p2
  generalize (((w1.setCell ⟨w.heap.size, 0, none⟩ (.int .i64 a.op)).setCell ⟨w.heap.size, 1, none⟩ (.string (bs a.s))).setCell ⟨w.heap.size, 2, none⟩ (.slice A1 a.l.length c1)) = w2 at *
  refine (token_yes hR2 hl HT.out).mono ?_
  rintro e w3 ⟨rfl, hR3, hk3⟩
  have ho3 : Outs w3 M1 w.heap.size (w.heap.size + 1) (w.heap.size + 1 + 1) (.int .i64 a.op) (.string (bs a.s)) (.slice A1 a.l.length c1) 0 0 := ⟨ho2.1.same hk3 (by simp; omega), ho2.2.1.same hk3 (by simp), ho2.2.2.same hk3 (by simp)⟩
  have hM3 := hM2.kp hk3 (by simpa using hR2.box.out)
  have hK3 := hK2.inner hk3 (by simp; omega)
  have hc1 : w3.cell? ⟨w.heap.size + 1 + 1 + 1, 1, none⟩ = some (.int .i64 (at_ s (sk r) : Nat)) := hR3.box.cell 1
  have HO := Hid.mk (And.intro ho3 (And.intro hM3 (And.intro hK3 he1)))
  clear ho2 hM2 hK2 hR2 hk3 ho3 hM3 hK3 he1 hxa
  go_wp2_with fail
  obtain ⟨ho3, hM3, hK3, he1⟩ := HO.out
  refine leaves_cons (f := 62) (args := #[.pointer (some ⟨w.heap.size, 0, none⟩), .pointer (some ⟨w.heap.size + 1, 0, none⟩), .pointer (some ⟨w.heap.size + 1 + 1, 0, none⟩)]) (by simp) (by simp [go_sem]) ?_
  refine (catch_wrong _ _ _ w3 M1 (at_ s (sk r) : Nat) _ _ _ 0 0 (by omega) (by omega) (by omega) ho3).mono ?_
  rintro e u' w4 ⟨rfl, rfl, hk4, ho4⟩
  obtain ⟨⟨r0, r1, r2⟩, _, _, _⟩ := ho4.1.three
  have r3 : w4.cell? ⟨w.heap.size + 1, 0, none⟩ = some (.int .i64 (at_ s (sk r) : Nat)) := ho4.2.1.cell 0
  have r4 : w4.cell? ⟨w.heap.size + 1 + 1, 0, none⟩ = some (.int .i64 2) := ho4.2.2.cell 0
  have hP : PEnd w M (zeroE, (at_ s (sk r) : Nat), 2) (.returned (.tuple #[.agg #[.int .i64 0, .string ⟨#[]⟩, .slice none 0 0], .int .i64 (at_ s (sk r) : Nat), .int .i64 2])) w4 :=
    ⟨none, 0, M1, rfl, exv_zero M1, hM3.kp hk4 ho3.none, he1, hK3.inner hk4 (by simp; omega)⟩
  show Leaves _ _ _ _ _ _ _
  simp [Leaves, settle, results, Tryz.results30, go_sem, r0, r1, r2, r3, r4]
  exact hP
end Go.Proofs.YtgdnhlckodhhgaaGreatDoor

/-
  The program's reader: a text read whole: the other ends of Parse.
-/
namespace Go.Proofs.YtgdnhlckodhhgaaGreatDoor
open Go.RowKit
set_option linter.unusedVariables false
set_option linter.unusedSimpArgs false
theorem outs_store {w : World} {M : Heap} {b b1 b2 : Nat} {x y z : Value} {n m : Int} (h : Outs w M b b1 b2 x y z n m) (x' y' z' : Value) (n' m' : Int) (h01 : b ≠ b1) (h02 : b ≠ b2) (h12 : b1 ≠ b2) :
    let W := (((((w.setCell ⟨b, 0, none⟩ x').setCell ⟨b, 1, none⟩ y').setCell ⟨b, 2, none⟩ z').setCell ⟨b1, 0, none⟩ (.int .i64 n')).setCell ⟨b2, 0, none⟩ (.int .i64 m'))
    Outs W M b b1 b2 x' y' z' n' m' ∧ Kp [b, b1, b2] w W := by
  obtain ⟨B0, B1, B2⟩ := h
  exact ⟨⟨(B0.set3.far h01 _).far h02 _, ((((B1.far (Ne.symm h01) _).far (Ne.symm h01) _).far (Ne.symm h01) _).set 0 _).far h12 _, ((((B2.far (Ne.symm h02) _).far (Ne.symm h02) _).far (Ne.symm h02) _).far (Ne.symm h12) _).set 0 _⟩,
    (((Kp.refl _ w).set3 (.inl (by simp))).setCell (.inl (by simp)) _).setCell (.inl (by simp)) _⟩
set_option maxRecDepth 100000 in
set_option maxHeartbeats 4000000 in
theorem Parse_val {k : Nat} {s r : Bs} {a : E} {w : World} {M : Heap} (hM : Mem w M) (hl : s.length ≤ 6000) (hx : G k (.lv 0 s) = some (.ok (a, r))) (ht : tk (sk r) = some []) (hsz : a.size ≤ 1099511627776) (hwd : a.wide ≤ 1099511627776) (hv : verdict a ≠ 0) :
    Calls Tryz.prog 30 #[.string (bs s)] w (PEnd w M (zeroE, 0, verdict a)) := by
  have hmf : ∀ (fn : Fn) (first cap : Array Value) (w : World), (Instr.makeFunc fn first cap).run Tryz.prog w = .ok (.func fn first cap) w := fun _ _ _ _ => rfl
  have H1 := Hid.mk hx
  have hz := bs_size s
  have HB := Hid.mk (begin_at w M s hM)
  have HT := Hid.mk ht
  have HZ := Hid.mk (And.intro hsz hwd)
  clear ht hsz hwd
  have hut := bs_toList ([] : Bs)
  clear hx
  go_enter_defers Tryz.func30, Tryz.ntmps30
  go_wp2_with fail
  refine ((only_calls k).ok HB.out.2.1 HB.out.1 hl H1.out).mono ?_
  rintro e w1 ⟨A1, c1, M1, rfl, hxa, hM1, he1, hR1, hk1⟩
  obtain ⟨hM4, hR, ho, hK⟩ := HB.out
  have he1' := he1.low (n := w.heap.size) hK.size
  have hsz4 : w.heap.size + 1 + 1 + 1 + 1 ≤ w1.heap.size := by have := hk1.size; simp at this; omega
  have ho1 : Outs w1 M1 w.heap.size (w.heap.size + 1) (w.heap.size + 1 + 1) (.int .i64 0) (.string ⟨#[]⟩) (.slice none 0 0) 0 0 := ⟨ho.1.kp hk1 (by simp; omega) he1 (by simp; omega), ho.2.1.kp hk1 (by simp) he1 (by simp), ho.2.2.kp hk1 (by simp) he1 (by simp)⟩
  have hK1 := hK.inner hk1 (by simp; omega)
  clear HB hM4 hR ho hk1 hK he1
  obtain ⟨_, f0, f1, f2⟩ := ho1.1.three
  obtain ⟨⟨p0, p1, p2⟩, _, _, _⟩ := ho1.1.three
  have HA := Hid.mk (And.intro hxa (And.intro hM1 (And.intro he1' (And.intro hR1 (And.intro ho1 hK1)))))
  clear hxa hM1 he1' hR1 ho1 hK1
  go_wp2_with fail
  obtain ⟨hxa, hM1, he1, hR1, ho1, hK1⟩ := HA.out
  have hk2 := Kp.set3 (b := w.heap.size) (x' := .int .i64 a.op) (y' := .string (bs a.s)) (z' := .slice A1 a.l.length c1) (Kp.refl [w.heap.size] w1) (.inl (by simp))
  have ho2 : Outs (((w1.setCell ⟨w.heap.size, 0, none⟩ (.int .i64 a.op)).setCell ⟨w.heap.size, 1, none⟩ (.string (bs a.s))).setCell ⟨w.heap.size, 2, none⟩ (.slice A1 a.l.length c1)) M1 w.heap.size (w.heap.size + 1) (w.heap.size + 1 + 1) (.int .i64 a.op) (.string (bs a.s)) (.slice A1 a.l.length c1) 0 0 := ⟨ho1.1.set3, ho1.2.1.same hk2 (by simp), ho1.2.2.same hk2 (by simp; omega)⟩
  have hR2 := hR1.same hk2 (by simp; omega)
  have hM2 := hM1.kp hk2 (by simpa using ho1.1.out)
  have hK2 := hK1.inner hk2 (by simp)
  have hs2 := hk2.size
  clear HA hM1 hR1 ho1 hK1 hk2 f0 f1 f2 p0 p1 p2
  generalize (((w1.setCell ⟨w.heap.size, 0, none⟩ (.int .i64 a.op)).setCell ⟨w.heap.size, 1, none⟩ (.string (bs a.s))).setCell ⟨w.heap.size, 2, none⟩ (.slice A1 a.l.length c1)) = w2 at *
  refine (token_yes (u := []) hR2 hl HT.out).mono ?_
  rintro e w3 ⟨rfl, hR3, hk3⟩
  have ho3 : Outs w3 M1 w.heap.size (w.heap.size + 1) (w.heap.size + 1 + 1) (.int .i64 a.op) (.string (bs a.s)) (.slice A1 a.l.length c1) 0 0 := ⟨ho2.1.same hk3 (by simp; omega), ho2.2.1.same hk3 (by simp), ho2.2.2.same hk3 (by simp)⟩
  have hM3 := hM2.kp hk3 (by simpa using hR2.box.out)
  have hK3 := hK2.inner hk3 (by simp; omega)
  obtain ⟨⟨q0, q1, q2⟩, _, _, _⟩ := ho3.1.three
  have HO := Hid.mk (And.intro ho3 (And.intro hM3 (And.intro hK3 (And.intro he1 hxa))))
  clear ho2 hM2 hK2 hR2 hk3 ho3 hM3 hK3 he1 hxa hR3
  go_wp2_with fail
  refine (Validate_calls a A1 c1 w3 M1 HO.out.2.2.2.2 HO.out.2.1 HZ.out.1 HZ.out.2).mono ?_
  rintro e w4 ⟨rfl, hk4⟩
  obtain ⟨ho3, hM3, hK3, he1, hxa⟩ := HO.out
  have ho4 : Outs w4 M1 w.heap.size (w.heap.size + 1) (w.heap.size + 1 + 1) (.int .i64 a.op) (.string (bs a.s)) (.slice A1 a.l.length c1) 0 0 := ⟨ho3.1.same hk4 (by simp), ho3.2.1.same hk4 (by simp), ho3.2.2.same hk4 (by simp)⟩
  have hM4 := hM3.kp hk4 (by simp)
  have hK4 := hK3.trans hk4
  have hl3 := ho3.2.2.lt
  have hl4 := hk4.size
  clear HO q0 q1 q2 hk4 ho3 hM3 hK3
  obtain ⟨⟨q0, q1, q2⟩, f0, f1, f2⟩ := ho4.1.three
  have q3 : w4.cell? ⟨w.heap.size + 1, 0, none⟩ = some (.int .i64 0) := ho4.2.1.cell 0
  have q4 : w4.cell? ⟨w.heap.size + 1 + 1, 0, none⟩ = some (.int .i64 0) := ho4.2.2.cell 0
  have f3 := ho4.2.1.free 0
  have f4 := ho4.2.2.free 0
  have HO := Hid.mk (And.intro ho4 (And.intro hM4 (And.intro hK4 (And.intro he1 hxa))))
  clear ho4 hM4 hK4 he1 hxa
  generalize verdict a = v at *
  have hv' : (v == 0) = false := by simpa using hv
  have hv2 : (v != 0) = true := by simpa using hv
  go_wp2_with fail
  obtain ⟨ho4, hM4, hK4, he1, hxa⟩ := HO.out
  obtain ⟨ho5, hk5⟩ := outs_store ho4 (.int .i64 0) (.string ⟨#[]⟩) (.slice none 0 0) 0 v (by omega) (by omega) (by omega)
  generalize (((((w4.setCell ⟨w.heap.size, 0, none⟩ (.int .i64 0)).setCell ⟨w.heap.size, 1, none⟩ (.string ⟨#[]⟩)).setCell ⟨w.heap.size, 2, none⟩ (.slice none 0 0)).setCell ⟨w.heap.size + 1, 0, none⟩ (.int .i64 0)).setCell ⟨w.heap.size + 1 + 1, 0, none⟩ (.int .i64 v)) = w5 at *
  have hM5 := hM4.kp hk5 ho4.none
  have hK5 := hK4.inner hk5 (by simp; omega)
  refine leaves_cons (f := 62) (args := #[.pointer (some ⟨w.heap.size, 0, none⟩), .pointer (some ⟨w.heap.size + 1, 0, none⟩), .pointer (some ⟨w.heap.size + 1 + 1, 0, none⟩)]) (by simp) (by simp [go_sem]) ?_
  refine (catch_idle _ _ _ w5).mono ?_
  rintro e u' w6 ⟨rfl, rfl, hk6⟩
  have h60 := ho5.1.same hk6 (by simp)
  have h61 := ho5.2.1.same hk6 (by simp)
  have h62 := ho5.2.2.same hk6 (by simp)
  obtain ⟨⟨r0, r1, r2⟩, _, _, _⟩ := h60.three
  have r3 : w6.cell? ⟨w.heap.size + 1, 0, none⟩ = some (.int .i64 0) := h61.cell 0
  have r4 : w6.cell? ⟨w.heap.size + 1 + 1, 0, none⟩ = some (.int .i64 v) := h62.cell 0
  have hP : PEnd w M (zeroE, 0, v) (.returned (.tuple #[.agg #[.int .i64 0, .string ⟨#[]⟩, .slice none 0 0], .int .i64 0, .int .i64 v])) w6 :=
    ⟨none, 0, M1, rfl, exv_zero M1, hM5.kp hk6 (by simp), he1, hK5.trans hk6⟩
  show Leaves _ _ _ _ _ _ _
  simp [Leaves, settle, results, Tryz.results30, go_sem, r0, r1, r2, r3, r4]
  exact hP
set_option maxRecDepth 100000 in
set_option maxHeartbeats 4000000 in
theorem Parse_good {k : Nat} {s r : Bs} {a : E} {w : World} {M : Heap} (hM : Mem w M) (hl : s.length ≤ 6000) (hx : G k (.lv 0 s) = some (.ok (a, r))) (ht : tk (sk r) = some []) (hsz : a.size ≤ 1099511627776) (hwd : a.wide ≤ 1099511627776) (hv : verdict a = 0) :
    Calls Tryz.prog 30 #[.string (bs s)] w (PEnd w M (a, 0, 0)) := by
  have hmf : ∀ (fn : Fn) (first cap : Array Value) (w : World), (Instr.makeFunc fn first cap).run Tryz.prog w = .ok (.func fn first cap) w := fun _ _ _ _ => rfl
  have H1 := Hid.mk hx
  have hz := bs_size s
  have HB := Hid.mk (begin_at w M s hM)
  have HT := Hid.mk ht
  have HZ := Hid.mk (And.intro hsz hwd)
  clear ht hsz hwd
  have hut := bs_toList ([] : Bs)
  clear hx
  go_enter_defers Tryz.func30, Tryz.ntmps30
  go_wp2_with fail
  refine ((only_calls k).ok HB.out.2.1 HB.out.1 hl H1.out).mono ?_
  rintro e w1 ⟨A1, c1, M1, rfl, hxa, hM1, he1, hR1, hk1⟩
  obtain ⟨hM4, hR, ho, hK⟩ := HB.out
  have he1' := he1.low (n := w.heap.size) hK.size
  have hsz4 : w.heap.size + 1 + 1 + 1 + 1 ≤ w1.heap.size := by have := hk1.size; simp at this; omega
  have ho1 : Outs w1 M1 w.heap.size (w.heap.size + 1) (w.heap.size + 1 + 1) (.int .i64 0) (.string ⟨#[]⟩) (.slice none 0 0) 0 0 := ⟨ho.1.kp hk1 (by simp; omega) he1 (by simp; omega), ho.2.1.kp hk1 (by simp) he1 (by simp), ho.2.2.kp hk1 (by simp) he1 (by simp)⟩
  have hK1 := hK.inner hk1 (by simp; omega)
  clear HB hM4 hR ho hk1 hK he1
  obtain ⟨_, f0, f1, f2⟩ := ho1.1.three
  obtain ⟨⟨p0, p1, p2⟩, _, _, _⟩ := ho1.1.three
  have HA := Hid.mk (And.intro hxa (And.intro hM1 (And.intro he1' (And.intro hR1 (And.intro ho1 hK1)))))
  clear hxa hM1 he1' hR1 ho1 hK1
  go_wp2_with fail
  obtain ⟨hxa, hM1, he1, hR1, ho1, hK1⟩ := HA.out
  have hk2 := Kp.set3 (b := w.heap.size) (x' := .int .i64 a.op) (y' := .string (bs a.s)) (z' := .slice A1 a.l.length c1) (Kp.refl [w.heap.size] w1) (.inl (by simp))
  have ho2 : Outs (((w1.setCell ⟨w.heap.size, 0, none⟩ (.int .i64 a.op)).setCell ⟨w.heap.size, 1, none⟩ (.string (bs a.s))).setCell ⟨w.heap.size, 2, none⟩ (.slice A1 a.l.length c1)) M1 w.heap.size (w.heap.size + 1) (w.heap.size + 1 + 1) (.int .i64 a.op) (.string (bs a.s)) (.slice A1 a.l.length c1) 0 0 := ⟨ho1.1.set3, ho1.2.1.same hk2 (by simp), ho1.2.2.same hk2 (by simp; omega)⟩
  have hR2 := hR1.same hk2 (by simp; omega)
  have hM2 := hM1.kp hk2 (by simpa using ho1.1.out)
  have hK2 := hK1.inner hk2 (by simp)
  have hs2 := hk2.size
  clear HA hM1 hR1 ho1 hK1 hk2 f0 f1 f2 p0 p1 p2
  generalize (((w1.setCell ⟨w.heap.size, 0, none⟩ (.int .i64 a.op)).setCell ⟨w.heap.size, 1, none⟩ (.string (bs a.s))).setCell ⟨w.heap.size, 2, none⟩ (.slice A1 a.l.length c1)) = w2 at *
  refine (token_yes (u := []) hR2 hl HT.out).mono ?_
  rintro e w3 ⟨rfl, hR3, hk3⟩
  have ho3 : Outs w3 M1 w.heap.size (w.heap.size + 1) (w.heap.size + 1 + 1) (.int .i64 a.op) (.string (bs a.s)) (.slice A1 a.l.length c1) 0 0 := ⟨ho2.1.same hk3 (by simp; omega), ho2.2.1.same hk3 (by simp), ho2.2.2.same hk3 (by simp)⟩
  have hM3 := hM2.kp hk3 (by simpa using hR2.box.out)
  have hK3 := hK2.inner hk3 (by simp; omega)
  obtain ⟨⟨q0, q1, q2⟩, _, _, _⟩ := ho3.1.three
  have HO := Hid.mk (And.intro ho3 (And.intro hM3 (And.intro hK3 (And.intro he1 hxa))))
  clear ho2 hM2 hK2 hR2 hk3 ho3 hM3 hK3 he1 hxa hR3
  go_wp2_with fail
  refine (Validate_calls a A1 c1 w3 M1 HO.out.2.2.2.2 HO.out.2.1 HZ.out.1 HZ.out.2).mono ?_
  rintro e w4 ⟨rfl, hk4⟩
  obtain ⟨ho3, hM3, hK3, he1, hxa⟩ := HO.out
  have ho4 : Outs w4 M1 w.heap.size (w.heap.size + 1) (w.heap.size + 1 + 1) (.int .i64 a.op) (.string (bs a.s)) (.slice A1 a.l.length c1) 0 0 := ⟨ho3.1.same hk4 (by simp), ho3.2.1.same hk4 (by simp), ho3.2.2.same hk4 (by simp)⟩
  have hM4 := hM3.kp hk4 (by simp)
  have hK4 := hK3.trans hk4
  have hl3 := ho3.2.2.lt
  have hl4 := hk4.size
  clear HO q0 q1 q2 hk4 ho3 hM3 hK3
  obtain ⟨⟨q0, q1, q2⟩, f0, f1, f2⟩ := ho4.1.three
  have q3 : w4.cell? ⟨w.heap.size + 1, 0, none⟩ = some (.int .i64 0) := ho4.2.1.cell 0
  have q4 : w4.cell? ⟨w.heap.size + 1 + 1, 0, none⟩ = some (.int .i64 0) := ho4.2.2.cell 0
  have f3 := ho4.2.1.free 0
  have f4 := ho4.2.2.free 0
  have HO := Hid.mk (And.intro ho4 (And.intro hM4 (And.intro hK4 (And.intro he1 hxa))))
  clear ho4 hM4 hK4 he1 hxa
  generalize verdict a = v at *
  subst hv
  go_wp2_with fail
  obtain ⟨ho4, hM4, hK4, he1, hxa⟩ := HO.out
  obtain ⟨ho5, hk5⟩ := outs_store ho4 (.int .i64 a.op) (.string (bs a.s)) (.slice A1 a.l.length c1) 0 0 (by omega) (by omega) (by omega)
  generalize (((((w4.setCell ⟨w.heap.size, 0, none⟩ (.int .i64 a.op)).setCell ⟨w.heap.size, 1, none⟩ (.string (bs a.s))).setCell ⟨w.heap.size, 2, none⟩ (.slice A1 a.l.length c1)).setCell ⟨w.heap.size + 1, 0, none⟩ (.int .i64 0)).setCell ⟨w.heap.size + 1 + 1, 0, none⟩ (.int .i64 0)) = w5 at *
  have hM5 := hM4.kp hk5 ho4.none
  have hK5 := hK4.inner hk5 (by simp; omega)
  refine leaves_cons (f := 62) (args := #[.pointer (some ⟨w.heap.size, 0, none⟩), .pointer (some ⟨w.heap.size + 1, 0, none⟩), .pointer (some ⟨w.heap.size + 1 + 1, 0, none⟩)]) (by simp) (by simp [go_sem]) ?_
  refine (catch_idle _ _ _ w5).mono ?_
  rintro e u' w6 ⟨rfl, rfl, hk6⟩
  have h60 := ho5.1.same hk6 (by simp)
  have h61 := ho5.2.1.same hk6 (by simp)
  have h62 := ho5.2.2.same hk6 (by simp)
  obtain ⟨⟨r0, r1, r2⟩, _, _, _⟩ := h60.three
  have r3 : w6.cell? ⟨w.heap.size + 1, 0, none⟩ = some (.int .i64 0) := h61.cell 0
  have r4 : w6.cell? ⟨w.heap.size + 1 + 1, 0, none⟩ = some (.int .i64 0) := h62.cell 0
  have hP : PEnd w M (a, 0, 0) (.returned (.tuple #[.agg #[.int .i64 a.op, .string (bs a.s), .slice A1 a.l.length c1], .int .i64 0, .int .i64 0])) w6 :=
    ⟨A1, c1, M1, rfl, hxa, hM5.kp hk6 (by simp), he1, hK5.trans hk6⟩
  show Leaves _ _ _ _ _ _ _
  simp [Leaves, settle, results, Tryz.results30, go_sem, r0, r1, r2, r3, r4]
  exact hP
end Go.Proofs.YtgdnhlckodhhgaaGreatDoor

/-
  The program's reader: Parse, for all texts.
-/
namespace Go.Proofs.YtgdnhlckodhhgaaGreatDoor
open Go.RowKit
set_option linter.unusedVariables false
set_option linter.unusedSimpArgs false
/-- What a text is read as. -/
def Reads (s : Bs) (o : E × Int × Int) : Prop := (6000 < s.length ∧ o = (zeroE, 0, 3)) ∨ (s.length ≤ 6000 ∧ ∃ k x, G k (.lv 0 s) = some x ∧ o = outc s x)
set_option maxRecDepth 100000 in
set_option maxHeartbeats 2000000 in
theorem Parse_large {s : Bs} {w : World} {M : Heap} (hM : Mem w M) (hl : 6000 < s.length) (hs : s.length ≤ 1099511627776) :
    Calls Tryz.prog 30 #[.string (bs s)] w (PEnd w M (zeroE, 0, 3)) := by
  have hz := bs_size s
  go_enter_defers Tryz.func30, Tryz.ntmps30
  go_wp2_with fail
  have m1 := hM.alloc O25
  have m2 := m1.alloc O3
  have m3 := m2.alloc (.cells #[.int .i64 3] 29)
  have hK := (((Kp.refl [] w).alloc O25).alloc O3).alloc (.cells #[.int .i64 3] 29)
  have s1 : (w.alloc O25).heap.size = w.heap.size + 1 := by simp
  have s2 : ((w.alloc O25).alloc O3).heap.size = w.heap.size + 1 + 1 := by simp
  have b0 := ((Box.new hM #[.int .i64 0, .string ⟨#[]⟩, .slice none 0 0] 24).alloc O3).alloc (.cells #[.int .i64 3] 29)
  have b1 := (Box.new m1 #[.int .i64 0] 3).alloc (.cells #[.int .i64 3] 29)
  have b2 := Box.new m2 #[.int .i64 3] 29
  rw [s1] at b1
  rw [s2] at b2
  generalize (((w.alloc O25).alloc O3).alloc (.cells #[.int .i64 3] 29)) = w3 at *
  obtain ⟨⟨r0, r1, r2⟩, _, _, _⟩ := b0.three
  have r3 : w3.cell? ⟨w.heap.size + 1, 0, none⟩ = some (.int .i64 0) := b1.cell 0
  have r4 : w3.cell? ⟨w.heap.size + 1 + 1, 0, none⟩ = some (.int .i64 3) := b2.cell 0
  have hP : PEnd w M (zeroE, 0, 3) (.returned (.tuple #[.agg #[.int .i64 0, .string ⟨#[]⟩, .slice none 0 0], .int .i64 0, .int .i64 3])) w3 :=
    ⟨none, 0, M, rfl, exv_zero M, m3, Ext.refl _ _, hK⟩
  show Leaves _ _ _ _ _ _ _
  simp [Leaves, settle, results, Tryz.results30, go_sem, r0, r1, r2, r3, r4]
  exact hP
theorem Parse_calls (s : Bs) (hs : s.length ≤ 1099511627776) : ∃ o, Reads s o ∧ ∀ w M, Mem w M → Calls Tryz.prog 30 #[.string (bs s)] w (PEnd w M o) := by
  by_cases hl : 6000 < s.length
  · exact ⟨_, .inl ⟨hl, rfl⟩, fun w M hM => Parse_large hM hl hs⟩
  · have hl' : s.length ≤ 6000 := by omega
    obtain ⟨k, x, hx⟩ := G_total (.lv 0 s)
    refine ⟨outc s x, .inr ⟨hl', k, x, hx, rfl⟩, fun w M hM => ?_⟩
    cases x with
    | error q => exact Parse_err hM hl' hx
    | ok y =>
      obtain ⟨a, r⟩ := y
      obtain ⟨h1, h2⟩ := read_small hx
      cases ht : tk (sk r) with
      | none => rw [show outc s (.ok (a, r)) = (zeroE, ((at_ s (sk r) : Nat) : Int), 2) by simp only [outc, ht]]; exact Parse_bad hM hl' hx ht
      | some u =>
        by_cases hu : u = []
        · subst hu
          by_cases hv : verdict a = 0
          · rw [show outc s (.ok (a, r)) = (a, 0, 0) by simp only [outc, ht, hv, if_true]]; exact Parse_good hM hl' hx ht (by omega) (by omega) hv
          · rw [show outc s (.ok (a, r)) = (zeroE, 0, verdict a) by simp only [outc, ht, hv, if_true, if_false]]; exact Parse_val hM hl' hx ht (by omega) (by omega) hv
        · rw [show outc s (.ok (a, r)) = (zeroE, ((at_ s (sk r) : Nat) : Int), 2) by simp only [outc, ht, hu, if_false]]; exact Parse_rest hM hl' hx ht hu
end Go.Proofs.YtgdnhlckodhhgaaGreatDoor

/-
  What a text reads as is one.
-/
namespace Go.Proofs.YtgdnhlckodhhgaaGreatDoor
theorem G_le {k m : Nat} {t : Task} {x : Ex (E × Bs)} (h : G k t = some x) (hkm : k ≤ m) : G m t = some x := by
  induction hkm with
  | refl => exact h
  | step _ ih => exact G_mono _ _ _ ih
theorem G_one {k m : Nat} {t : Task} {x y : Ex (E × Bs)} (h : G k t = some x) (h' : G m t = some y) : x = y := by
  rcases Nat.le_total k m with hk | hk
  · have := G_le h hk; rw [this] at h'; exact Option.some.inj h'
  · have := G_le h' hk; rw [this] at h; exact (Option.some.inj h).symm
theorem reads_one {s : Bs} {o o' : E × Int × Int} (h : Reads s o) (h' : Reads s o') : o = o' := by
  rcases h with ⟨h1, rfl⟩ | ⟨h1, k, x, h2, rfl⟩ <;> rcases h' with ⟨h3, rfl⟩ | ⟨h3, m, y, h4, rfl⟩
  · rfl
  · omega
  · omega
  · rw [G_one h2 h4]
end Go.Proofs.YtgdnhlckodhhgaaGreatDoor
