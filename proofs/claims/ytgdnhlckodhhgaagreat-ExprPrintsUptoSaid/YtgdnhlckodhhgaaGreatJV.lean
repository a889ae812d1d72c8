/-
  The text of a node of two, by the program.
-/
import Derived.Test.YtgdnhlckodhhgaaGreatJU
import Derived.Test.YtgdnhlckodhhgaaGreatJW0
import Derived.Test.YtgdnhlckodhhgaaGreatJH8
import Derived.Test.YtgdnhlckodhhgaaGreatJI
import Derived.Lib.Join
namespace Go.Proofs.YtgdnhlckodhhgaaGreat
open Go.RowKit
set_option linter.unusedVariables false
set_option linter.unusedSimpArgs false
theorem twos_look (W : World) (r : Nat) (hb : W.heap[r]? = some (.map twos 3)) :
    (Instr.lookup 68 (.map (some r)) (.int .i64 7) false).run Tryz.prog W = .ok (.string ⟨#[32, 45, 32]⟩) W ∧
    (Instr.lookup 68 (.map (some r)) (.int .i64 15) false).run Tryz.prog W = .ok (.string ⟨#[32, 37, 32]⟩) W ∧
    (Instr.lookup 68 (.map (some r)) (.int .i64 13) false).run Tryz.prog W = .ok (.string ⟨#[32, 47, 32]⟩) W :=
  ⟨run_look_lit _ _ twos 3 _ _ hb Tryz.underlying68 Tryz.underlying3 (by simp [MapKept.IsKey]) (by simp [twos, MapKept.IsKey]) (by simp [twos]) (by simp [twos]),
   run_look_lit _ _ twos 3 _ _ hb Tryz.underlying68 Tryz.underlying3 (by simp [MapKept.IsKey]) (by simp [twos, MapKept.IsKey]) (by simp [twos]) (by simp [twos]),
   run_look_lit _ _ twos 3 _ _ hb Tryz.underlying68 Tryz.underlying3 (by simp [MapKept.IsKey]) (by simp [twos, MapKept.IsKey]) (by simp [twos]) (by simp [twos])⟩
set_option maxRecDepth 100000 in
set_option maxHeartbeats 4000000 in
theorem text_two7 {a b : E} (ha : TX a) (hb : TX b) (hz : a.txt.length ≤ 100000) (hzb : b.txt.length ≤ 100000) (A : Option Addr) (c least : Nat) (w : World) (M : Heap) (he : ExV M (.mk 7 [] [a, b]) A c) (hM : Mem w M) (hl : least ≤ 1) :
    Calls Tryz.prog 15 #[.agg #[.int .i64 7, .string (bs []), .slice A 2 c], .int .i64 (least : Nat)] w fun en w' => en = .returned (.string (bs (E.mk 7 [] [a, b]).txt)) ∧ Kp [] w w' := by
  obtain ⟨ba, oa, rfl⟩ := he.place (by simp [E.l])
  obtain ⟨A', c', hxa, hc⟩ := kid_cells he 0 (by simp [E.l])
  obtain ⟨B', d', hxb, hd⟩ := kid_cells he 1 (by simp [E.l])
  replace hxa : ExV M a A' c' := hxa
  replace hxb : ExV M b B' d' := hxb
  rw [show oa + 0 * 3 = oa by omega] at hc
  rw [show oa + 1 * 3 = oa + 3 by omega] at hd
  replace hc : ∀ w, Mem w M → w.cell? ⟨ba, oa, none⟩ = some (Value.int .i64 a.op) ∧ w.cell? ⟨ba, oa + 1, none⟩ = some (Value.string (bs a.s)) ∧ w.cell? ⟨ba, oa + 2, none⟩ = some (Value.slice A' a.l.length c') := hc
  replace hd : ∀ w, Mem w M → w.cell? ⟨ba, oa + 3, none⟩ = some (Value.int .i64 b.op) ∧ w.cell? ⟨ba, oa + 3 + 1, none⟩ = some (Value.string (bs b.s)) ∧ w.cell? ⟨ba, oa + 3 + 2, none⟩ = some (Value.slice B' b.l.length d') := hd
  have HA : Hid (∀ w, Mem w M → Calls Tryz.prog 15 #[.agg #[.int .i64 a.op, .string (bs a.s), .slice A' a.l.length c'], .int .i64 1] w fun en w' => en = .returned (.string (bs (wt 1 a))) ∧ Kp [] w w') := Hid.mk (fun w hM => ha A' c' 1 w M hxa hM (by omega))
  have HB : Hid (∀ w, Mem w M → Calls Tryz.prog 15 #[.agg #[.int .i64 b.op, .string (bs b.s), .slice B' b.l.length d'], .int .i64 2] w fun en w' => en = .returned (.string (bs (wt 2 b))) ∧ Kp [] w w') := Hid.mk (fun w hM => hb B' d' 2 w M hxb hM (by omega))
  have HL : Hid (∀ w, Calls Tryz.prog 38 #[.int .i64 7] w fun e w' => e = .returned (.int .i64 1) ∧ w = w') := Hid.mk (fun w => level_calls 7 w)
  have hlt : ¬ (1 : Int) < (least : Int) := by omega
  have htl : (wt 1 a).length ≤ 100002 := by have := wt_len 1 a; omega
  have htk : (wt 2 b).length ≤ 100002 := by have := wt_len 2 b; omega
  have HS := Hid.mk (show bs (wt 1 a) ++ bs [32, 45, 32] ++ bs (wt 2 b) = bs (E.mk 7 [] [a, b]).txt by rw [bs_cat, bs_cat, List.append_assoc]; rfl)
  have hsz := bs_size (wt 1 a)
  have hsk := bs_size (wt 2 b)
  generalize wt 1 a = t at *
  generalize wt 2 b = u at *
  have hwr : IntKind.i64.wrap 2 = 2 := by decide
  have hf1 : ¬ 9223372036854775807 < t.length + 3 := by omega
  have hf2 : ¬ 9223372036854775807 < t.length + 3 + u.length := by omega
  have H0 : Hid (∀ w', Kp [] ((w.alloc (.cells #[.int .i64 7, .string (bs []), .slice (some ⟨ba, oa, none⟩) 2 c] 24)).alloc (.map twos 3)) w' → Mem w' M ∧ (w'.cell? ⟨w.heap.size, 2, none⟩ = some (.slice (some ⟨ba, oa, none⟩) 2 c) ∧ w'.cell? ⟨ba, oa, none⟩ = some (.int .i64 a.op) ∧ w'.cell? ⟨ba, oa + 1, none⟩ = some (.string (bs a.s)) ∧ w'.cell? ⟨ba, oa + 2, none⟩ = some (.slice A' a.l.length c') ∧ w'.cell? ⟨ba, oa + 3, none⟩ = some (.int .i64 b.op) ∧ w'.cell? ⟨ba, oa + 3 + 1, none⟩ = some (.string (bs b.s)) ∧ w'.cell? ⟨ba, oa + 3 + 2, none⟩ = some (.slice B' b.l.length d')) ∧ Kp [] w w') := Hid.mk (fun w' hk => by
    have hm := ((hM.alloc (.cells #[.int .i64 7, .string (bs []), .slice (some ⟨ba, oa, none⟩) 2 c] 24)).alloc (.map twos 3)).kp hk (by simp)
    have hx := ((Box.new hM #[.int .i64 7, .string (bs []), .slice (some ⟨ba, oa, none⟩) 2 c] 24).alloc (.map twos 3)).same hk (by simp)
    exact ⟨hm, ⟨hx.three.1.2.2, (hc _ hm).1, (hc _ hm).2.1, (hc _ hm).2.2, (hd _ hm).1, (hd _ hm).2.1, (hd _ hm).2.2⟩, (((Kp.refl _ _).alloc _).alloc _).trans hk⟩)
  have hmm := @run_makeMap Tryz.prog
  obtain ⟨i1, i2, i3⟩ := twos_made (w.alloc (.cells #[.int .i64 7, .string (bs []), .slice (some ⟨ba, oa, none⟩) 2 c] 24))
  have i4 := twos_look ((w.alloc (.cells #[.int .i64 7, .string (bs []), .slice (some ⟨ba, oa, none⟩) 2 c] 24)).alloc (.map twos 3)) (w.alloc (.cells #[.int .i64 7, .string (bs []), .slice (some ⟨ba, oa, none⟩) 2 c] 24)).heap.size (heap_alloc_new _ _)
  replace i4 := i4.1
  rw [show (w.alloc (.cells #[.int .i64 7, .string (bs []), .slice (some ⟨ba, oa, none⟩) 2 c] 24)).heap.size = w.heap.size + 1 by simp] at i1 i2 i3 i4
  clear ha hb hc hd hxa hxb hM he
  go_enter Tryz.func15, Tryz.ntmps15
  go_wp2_with fail
  refine (HL.out _).mono ?_
  rintro en w2 ⟨rfl, rfl⟩
  go_upto_region 17 with fail
  clear i1 i2 i3 i4 hmm
  generalize ((w.alloc (.cells #[.int .i64 7, .string (bs []), .slice (some ⟨ba, oa, none⟩) 2 c] 24)).alloc (.map twos 3)) = w1 at *
  have hkd : Kp [] w1 w1.drew := (Kp.refl [] w1).drew
  obtain ⟨hM1, ⟨z0, z1, z2, z3, z4, z5, z6⟩, hK1⟩ := H0.out _ hkd
  clear hM1 hK1
  generalize Value.int .i64 a.op = va at *
  generalize Value.string (bs a.s) = vb at *
  generalize Value.slice A' a.l.length c' = vc at *
  generalize Value.int .i64 b.op = vd at *
  generalize Value.string (bs b.s) = ve at *
  generalize Value.slice B' b.l.length d' = vf at *
  go_region_held3 (fun w' => w'.cell? ⟨w.heap.size, 2, none⟩ = some (.slice (some ⟨ba, oa, none⟩) 2 c) ∧ w'.cell? ⟨ba, oa, none⟩ = some va ∧ w'.cell? ⟨ba, oa + 1, none⟩ = some vb ∧ w'.cell? ⟨ba, oa + 2, none⟩ = some vc ∧ w'.cell? ⟨ba, oa + 3, none⟩ = some vd ∧ w'.cell? ⟨ba, oa + 3 + 1, none⟩ = some ve ∧ w'.cell? ⟨ba, oa + 3 + 2, none⟩ = some vf) (go_keep) (first
    | (go_at_call 15; (with_reducible refine (HA.out _ (H0.out _ (by assumption)).1).mono ?_); rintro e w5 ⟨rfl, hk5⟩; have hk6 := Kp.trans (by assumption) hk5; obtain ⟨hx1, ⟨z0, z1, z2, z3, z4, z5, z6⟩, hx2⟩ := H0.out _ hk6; clear hx1 hx2 hk5)
    | (go_at_call 15; (with_reducible refine (HB.out _ (H0.out _ (by assumption)).1).mono ?_); rintro e w5 ⟨rfl, hk5⟩; have hk6 := Kp.trans (by assumption) hk5; obtain ⟨hx1, ⟨z0, z1, z2, z3, z4, z5, z6⟩, hx2⟩ := H0.out _ hk6; clear hx1 hx2 hk5))
  have HZ := Hid.mk (H0.out _ (by assumption)).2.2
  go_wp2_with fail
  go_ret
  exact ⟨by rw [← HS.out]; rfl, HZ.out⟩
set_option maxRecDepth 100000 in
set_option maxHeartbeats 4000000 in
theorem text_two15 {a b : E} (ha : TX a) (hb : TX b) (hz : a.txt.length ≤ 100000) (hzb : b.txt.length ≤ 100000) (A : Option Addr) (c least : Nat) (w : World) (M : Heap) (he : ExV M (.mk 15 [] [a, b]) A c) (hM : Mem w M) (hl : least ≤ 4) :
    Calls Tryz.prog 15 #[.agg #[.int .i64 15, .string (bs []), .slice A 2 c], .int .i64 (least : Nat)] w fun en w' => en = .returned (.string (bs (E.mk 15 [] [a, b]).txt)) ∧ Kp [] w w' := by
  obtain ⟨ba, oa, rfl⟩ := he.place (by simp [E.l])
  obtain ⟨A', c', hxa, hc⟩ := kid_cells he 0 (by simp [E.l])
  obtain ⟨B', d', hxb, hd⟩ := kid_cells he 1 (by simp [E.l])
  replace hxa : ExV M a A' c' := hxa
  replace hxb : ExV M b B' d' := hxb
  rw [show oa + 0 * 3 = oa by omega] at hc
  rw [show oa + 1 * 3 = oa + 3 by omega] at hd
  replace hc : ∀ w, Mem w M → w.cell? ⟨ba, oa, none⟩ = some (Value.int .i64 a.op) ∧ w.cell? ⟨ba, oa + 1, none⟩ = some (Value.string (bs a.s)) ∧ w.cell? ⟨ba, oa + 2, none⟩ = some (Value.slice A' a.l.length c') := hc
  replace hd : ∀ w, Mem w M → w.cell? ⟨ba, oa + 3, none⟩ = some (Value.int .i64 b.op) ∧ w.cell? ⟨ba, oa + 3 + 1, none⟩ = some (Value.string (bs b.s)) ∧ w.cell? ⟨ba, oa + 3 + 2, none⟩ = some (Value.slice B' b.l.length d') := hd
  have HA : Hid (∀ w, Mem w M → Calls Tryz.prog 15 #[.agg #[.int .i64 a.op, .string (bs a.s), .slice A' a.l.length c'], .int .i64 4] w fun en w' => en = .returned (.string (bs (wt 4 a))) ∧ Kp [] w w') := Hid.mk (fun w hM => ha A' c' 4 w M hxa hM (by omega))
  have HB : Hid (∀ w, Mem w M → Calls Tryz.prog 15 #[.agg #[.int .i64 b.op, .string (bs b.s), .slice B' b.l.length d'], .int .i64 5] w fun en w' => en = .returned (.string (bs (wt 5 b))) ∧ Kp [] w w') := Hid.mk (fun w hM => hb B' d' 5 w M hxb hM (by omega))
  have HL : Hid (∀ w, Calls Tryz.prog 38 #[.int .i64 15] w fun e w' => e = .returned (.int .i64 4) ∧ w = w') := Hid.mk (fun w => level_calls 15 w)
  have hlt : ¬ (4 : Int) < (least : Int) := by omega
  have htl : (wt 4 a).length ≤ 100002 := by have := wt_len 4 a; omega
  have htk : (wt 5 b).length ≤ 100002 := by have := wt_len 5 b; omega
  have HS := Hid.mk (show bs (wt 4 a) ++ bs [32, 37, 32] ++ bs (wt 5 b) = bs (E.mk 15 [] [a, b]).txt by rw [bs_cat, bs_cat, List.append_assoc]; rfl)
  have hsz := bs_size (wt 4 a)
  have hsk := bs_size (wt 5 b)
  generalize wt 4 a = t at *
  generalize wt 5 b = u at *
  have hwr : IntKind.i64.wrap 5 = 5 := by decide
  have hf1 : ¬ 9223372036854775807 < t.length + 3 := by omega
  have hf2 : ¬ 9223372036854775807 < t.length + 3 + u.length := by omega
  have H0 : Hid (∀ w', Kp [] ((w.alloc (.cells #[.int .i64 15, .string (bs []), .slice (some ⟨ba, oa, none⟩) 2 c] 24)).alloc (.map twos 3)) w' → Mem w' M ∧ (w'.cell? ⟨w.heap.size, 2, none⟩ = some (.slice (some ⟨ba, oa, none⟩) 2 c) ∧ w'.cell? ⟨ba, oa, none⟩ = some (.int .i64 a.op) ∧ w'.cell? ⟨ba, oa + 1, none⟩ = some (.string (bs a.s)) ∧ w'.cell? ⟨ba, oa + 2, none⟩ = some (.slice A' a.l.length c') ∧ w'.cell? ⟨ba, oa + 3, none⟩ = some (.int .i64 b.op) ∧ w'.cell? ⟨ba, oa + 3 + 1, none⟩ = some (.string (bs b.s)) ∧ w'.cell? ⟨ba, oa + 3 + 2, none⟩ = some (.slice B' b.l.length d')) ∧ Kp [] w w') := Hid.mk (fun w' hk => by
    have hm := ((hM.alloc (.cells #[.int .i64 15, .string (bs []), .slice (some ⟨ba, oa, none⟩) 2 c] 24)).alloc (.map twos 3)).kp hk (by simp)
    have hx := ((Box.new hM #[.int .i64 15, .string (bs []), .slice (some ⟨ba, oa, none⟩) 2 c] 24).alloc (.map twos 3)).same hk (by simp)
    exact ⟨hm, ⟨hx.three.1.2.2, (hc _ hm).1, (hc _ hm).2.1, (hc _ hm).2.2, (hd _ hm).1, (hd _ hm).2.1, (hd _ hm).2.2⟩, (((Kp.refl _ _).alloc _).alloc _).trans hk⟩)
  have hmm := @run_makeMap Tryz.prog
  obtain ⟨i1, i2, i3⟩ := twos_made (w.alloc (.cells #[.int .i64 15, .string (bs []), .slice (some ⟨ba, oa, none⟩) 2 c] 24))
  have i4 := twos_look ((w.alloc (.cells #[.int .i64 15, .string (bs []), .slice (some ⟨ba, oa, none⟩) 2 c] 24)).alloc (.map twos 3)) (w.alloc (.cells #[.int .i64 15, .string (bs []), .slice (some ⟨ba, oa, none⟩) 2 c] 24)).heap.size (heap_alloc_new _ _)
  replace i4 := i4.2.1
  rw [show (w.alloc (.cells #[.int .i64 15, .string (bs []), .slice (some ⟨ba, oa, none⟩) 2 c] 24)).heap.size = w.heap.size + 1 by simp] at i1 i2 i3 i4
  clear ha hb hc hd hxa hxb hM he
  go_enter Tryz.func15, Tryz.ntmps15
  go_wp2_with fail
  refine (HL.out _).mono ?_
  rintro en w2 ⟨rfl, rfl⟩
  go_upto_region 17 with fail
  clear i1 i2 i3 i4 hmm
  generalize ((w.alloc (.cells #[.int .i64 15, .string (bs []), .slice (some ⟨ba, oa, none⟩) 2 c] 24)).alloc (.map twos 3)) = w1 at *
  have hkd : Kp [] w1 w1.drew := (Kp.refl [] w1).drew
  obtain ⟨hM1, ⟨z0, z1, z2, z3, z4, z5, z6⟩, hK1⟩ := H0.out _ hkd
  clear hM1 hK1
  generalize Value.int .i64 a.op = va at *
  generalize Value.string (bs a.s) = vb at *
  generalize Value.slice A' a.l.length c' = vc at *
  generalize Value.int .i64 b.op = vd at *
  generalize Value.string (bs b.s) = ve at *
  generalize Value.slice B' b.l.length d' = vf at *
  go_region_held3 (fun w' => w'.cell? ⟨w.heap.size, 2, none⟩ = some (.slice (some ⟨ba, oa, none⟩) 2 c) ∧ w'.cell? ⟨ba, oa, none⟩ = some va ∧ w'.cell? ⟨ba, oa + 1, none⟩ = some vb ∧ w'.cell? ⟨ba, oa + 2, none⟩ = some vc ∧ w'.cell? ⟨ba, oa + 3, none⟩ = some vd ∧ w'.cell? ⟨ba, oa + 3 + 1, none⟩ = some ve ∧ w'.cell? ⟨ba, oa + 3 + 2, none⟩ = some vf) (go_keep) (first
    | (go_at_call 15; (with_reducible refine (HA.out _ (H0.out _ (by assumption)).1).mono ?_); rintro e w5 ⟨rfl, hk5⟩; have hk6 := Kp.trans (by assumption) hk5; obtain ⟨hx1, ⟨z0, z1, z2, z3, z4, z5, z6⟩, hx2⟩ := H0.out _ hk6; clear hx1 hx2 hk5)
    | (go_at_call 15; (with_reducible refine (HB.out _ (H0.out _ (by assumption)).1).mono ?_); rintro e w5 ⟨rfl, hk5⟩; have hk6 := Kp.trans (by assumption) hk5; obtain ⟨hx1, ⟨z0, z1, z2, z3, z4, z5, z6⟩, hx2⟩ := H0.out _ hk6; clear hx1 hx2 hk5))
  have HZ := Hid.mk (H0.out _ (by assumption)).2.2
  go_wp2_with fail
  go_ret
  exact ⟨by rw [← HS.out]; rfl, HZ.out⟩
set_option maxRecDepth 100000 in
set_option maxHeartbeats 4000000 in
theorem text_two13 {a b : E} (ha : TX a) (hb : TX b) (hz : a.txt.length ≤ 100000) (hzb : b.txt.length ≤ 100000) (A : Option Addr) (c least : Nat) (w : World) (M : Heap) (he : ExV M (.mk 13 [] [a, b]) A c) (hM : Mem w M) (hl : least ≤ 5) :
    Calls Tryz.prog 15 #[.agg #[.int .i64 13, .string (bs []), .slice A 2 c], .int .i64 (least : Nat)] w fun en w' => en = .returned (.string (bs (E.mk 13 [] [a, b]).txt)) ∧ Kp [] w w' := by
  obtain ⟨ba, oa, rfl⟩ := he.place (by simp [E.l])
  obtain ⟨A', c', hxa, hc⟩ := kid_cells he 0 (by simp [E.l])
  obtain ⟨B', d', hxb, hd⟩ := kid_cells he 1 (by simp [E.l])
  replace hxa : ExV M a A' c' := hxa
  replace hxb : ExV M b B' d' := hxb
  rw [show oa + 0 * 3 = oa by omega] at hc
  rw [show oa + 1 * 3 = oa + 3 by omega] at hd
  replace hc : ∀ w, Mem w M → w.cell? ⟨ba, oa, none⟩ = some (Value.int .i64 a.op) ∧ w.cell? ⟨ba, oa + 1, none⟩ = some (Value.string (bs a.s)) ∧ w.cell? ⟨ba, oa + 2, none⟩ = some (Value.slice A' a.l.length c') := hc
  replace hd : ∀ w, Mem w M → w.cell? ⟨ba, oa + 3, none⟩ = some (Value.int .i64 b.op) ∧ w.cell? ⟨ba, oa + 3 + 1, none⟩ = some (Value.string (bs b.s)) ∧ w.cell? ⟨ba, oa + 3 + 2, none⟩ = some (Value.slice B' b.l.length d') := hd
  have HA : Hid (∀ w, Mem w M → Calls Tryz.prog 15 #[.agg #[.int .i64 a.op, .string (bs a.s), .slice A' a.l.length c'], .int .i64 5] w fun en w' => en = .returned (.string (bs (wt 5 a))) ∧ Kp [] w w') := Hid.mk (fun w hM => ha A' c' 5 w M hxa hM (by omega))
  have HB : Hid (∀ w, Mem w M → Calls Tryz.prog 15 #[.agg #[.int .i64 b.op, .string (bs b.s), .slice B' b.l.length d'], .int .i64 6] w fun en w' => en = .returned (.string (bs (wt 6 b))) ∧ Kp [] w w') := Hid.mk (fun w hM => hb B' d' 6 w M hxb hM (by omega))
  have HL : Hid (∀ w, Calls Tryz.prog 38 #[.int .i64 13] w fun e w' => e = .returned (.int .i64 5) ∧ w = w') := Hid.mk (fun w => level_calls 13 w)
  have hlt : ¬ (5 : Int) < (least : Int) := by omega
  have htl : (wt 5 a).length ≤ 100002 := by have := wt_len 5 a; omega
  have htk : (wt 6 b).length ≤ 100002 := by have := wt_len 6 b; omega
  have HS := Hid.mk (show bs (wt 5 a) ++ bs [32, 47, 32] ++ bs (wt 6 b) = bs (E.mk 13 [] [a, b]).txt by rw [bs_cat, bs_cat, List.append_assoc]; rfl)
  have hsz := bs_size (wt 5 a)
  have hsk := bs_size (wt 6 b)
  generalize wt 5 a = t at *
  generalize wt 6 b = u at *
  have hwr : IntKind.i64.wrap 6 = 6 := by decide
  have hf1 : ¬ 9223372036854775807 < t.length + 3 := by omega
  have hf2 : ¬ 9223372036854775807 < t.length + 3 + u.length := by omega
  have H0 : Hid (∀ w', Kp [] ((w.alloc (.cells #[.int .i64 13, .string (bs []), .slice (some ⟨ba, oa, none⟩) 2 c] 24)).alloc (.map twos 3)) w' → Mem w' M ∧ (w'.cell? ⟨w.heap.size, 2, none⟩ = some (.slice (some ⟨ba, oa, none⟩) 2 c) ∧ w'.cell? ⟨ba, oa, none⟩ = some (.int .i64 a.op) ∧ w'.cell? ⟨ba, oa + 1, none⟩ = some (.string (bs a.s)) ∧ w'.cell? ⟨ba, oa + 2, none⟩ = some (.slice A' a.l.length c') ∧ w'.cell? ⟨ba, oa + 3, none⟩ = some (.int .i64 b.op) ∧ w'.cell? ⟨ba, oa + 3 + 1, none⟩ = some (.string (bs b.s)) ∧ w'.cell? ⟨ba, oa + 3 + 2, none⟩ = some (.slice B' b.l.length d')) ∧ Kp [] w w') := Hid.mk (fun w' hk => by
    have hm := ((hM.alloc (.cells #[.int .i64 13, .string (bs []), .slice (some ⟨ba, oa, none⟩) 2 c] 24)).alloc (.map twos 3)).kp hk (by simp)
    have hx := ((Box.new hM #[.int .i64 13, .string (bs []), .slice (some ⟨ba, oa, none⟩) 2 c] 24).alloc (.map twos 3)).same hk (by simp)
    exact ⟨hm, ⟨hx.three.1.2.2, (hc _ hm).1, (hc _ hm).2.1, (hc _ hm).2.2, (hd _ hm).1, (hd _ hm).2.1, (hd _ hm).2.2⟩, (((Kp.refl _ _).alloc _).alloc _).trans hk⟩)
  have hmm := @run_makeMap Tryz.prog
  obtain ⟨i1, i2, i3⟩ := twos_made (w.alloc (.cells #[.int .i64 13, .string (bs []), .slice (some ⟨ba, oa, none⟩) 2 c] 24))
  have i4 := twos_look ((w.alloc (.cells #[.int .i64 13, .string (bs []), .slice (some ⟨ba, oa, none⟩) 2 c] 24)).alloc (.map twos 3)) (w.alloc (.cells #[.int .i64 13, .string (bs []), .slice (some ⟨ba, oa, none⟩) 2 c] 24)).heap.size (heap_alloc_new _ _)
  replace i4 := i4.2.2
  rw [show (w.alloc (.cells #[.int .i64 13, .string (bs []), .slice (some ⟨ba, oa, none⟩) 2 c] 24)).heap.size = w.heap.size + 1 by simp] at i1 i2 i3 i4
  clear ha hb hc hd hxa hxb hM he
  go_enter Tryz.func15, Tryz.ntmps15
  go_wp2_with fail
  refine (HL.out _).mono ?_
  rintro en w2 ⟨rfl, rfl⟩
  go_upto_region 17 with fail
  clear i1 i2 i3 i4 hmm
  generalize ((w.alloc (.cells #[.int .i64 13, .string (bs []), .slice (some ⟨ba, oa, none⟩) 2 c] 24)).alloc (.map twos 3)) = w1 at *
  have hkd : Kp [] w1 w1.drew := (Kp.refl [] w1).drew
  obtain ⟨hM1, ⟨z0, z1, z2, z3, z4, z5, z6⟩, hK1⟩ := H0.out _ hkd
  clear hM1 hK1
  generalize Value.int .i64 a.op = va at *
  generalize Value.string (bs a.s) = vb at *
  generalize Value.slice A' a.l.length c' = vc at *
  generalize Value.int .i64 b.op = vd at *
  generalize Value.string (bs b.s) = ve at *
  generalize Value.slice B' b.l.length d' = vf at *
  go_region_held3 (fun w' => w'.cell? ⟨w.heap.size, 2, none⟩ = some (.slice (some ⟨ba, oa, none⟩) 2 c) ∧ w'.cell? ⟨ba, oa, none⟩ = some va ∧ w'.cell? ⟨ba, oa + 1, none⟩ = some vb ∧ w'.cell? ⟨ba, oa + 2, none⟩ = some vc ∧ w'.cell? ⟨ba, oa + 3, none⟩ = some vd ∧ w'.cell? ⟨ba, oa + 3 + 1, none⟩ = some ve ∧ w'.cell? ⟨ba, oa + 3 + 2, none⟩ = some vf) (go_keep) (first
    | (go_at_call 15; (with_reducible refine (HA.out _ (H0.out _ (by assumption)).1).mono ?_); rintro e w5 ⟨rfl, hk5⟩; have hk6 := Kp.trans (by assumption) hk5; obtain ⟨hx1, ⟨z0, z1, z2, z3, z4, z5, z6⟩, hx2⟩ := H0.out _ hk6; clear hx1 hx2 hk5)
    | (go_at_call 15; (with_reducible refine (HB.out _ (H0.out _ (by assumption)).1).mono ?_); rintro e w5 ⟨rfl, hk5⟩; have hk6 := Kp.trans (by assumption) hk5; obtain ⟨hx1, ⟨z0, z1, z2, z3, z4, z5, z6⟩, hx2⟩ := H0.out _ hk6; clear hx1 hx2 hk5))
  have HZ := Hid.mk (H0.out _ (by assumption)).2.2
  go_wp2_with fail
  go_ret
  exact ⟨by rw [← HS.out]; rfl, HZ.out⟩
end Go.Proofs.YtgdnhlckodhhgaaGreat

/-
  The text of a node of many, by the program.
-/
namespace Go.Proofs.YtgdnhlckodhhgaaGreat
open Go.RowKit
set_option linter.unusedVariables false
set_option linter.unusedSimpArgs false
def manys : Array MapEntry := #[{ key := .int .i64 5, val := .string ⟨#[32, 124, 32]⟩, born := 0 }, { key := .int .i64 6, val := .string ⟨#[32, 38, 32]⟩, born := 1 }]
theorem manys_made (W : World) :
    (Instr.mapUpdate 68 (.map (some W.heap.size)) (.int .i64 5) (.string ⟨#[32, 124, 32]⟩)).run Tryz.prog (W.alloc (.map #[] 0)) = .ok () (W.alloc (.map #[{ key := .int .i64 5, val := .string ⟨#[32, 124, 32]⟩, born := 0 }] 1)) ∧
    (Instr.mapUpdate 68 (.map (some W.heap.size)) (.int .i64 6) (.string ⟨#[32, 38, 32]⟩)).run Tryz.prog (W.alloc (.map #[{ key := .int .i64 5, val := .string ⟨#[32, 124, 32]⟩, born := 0 }] 1)) = .ok () (W.alloc (.map manys 2)) :=
  ⟨run_insert_new _ _ rfl #[] 0 _ _ Tryz.underlying68 Tryz.underlying3 (by simp [MapKept.IsKey]) (by simp),
   run_insert_new _ _ rfl #[{ key := .int .i64 5, val := .string ⟨#[32, 124, 32]⟩, born := 0 }] 1 _ _ Tryz.underlying68 Tryz.underlying3 (by simp [MapKept.IsKey]) (by simp [MapKept.IsKey])⟩
theorem run_zero_string (w : World) : (zeroValue 9).run Tryz.prog w = .ok (.string ⟨#[]⟩) w := by
  have h : (Tryz.prog.info? 9).map (fun i => i.zero) = some (some (.string ⟨#[]⟩)) := by kernel_rfl
  obtain ⟨i, hi, hz⟩ := Option.map_eq_some_iff.1 h
  simp [zeroValue, typeInfo, hi, hz, Sem.run]
theorem manys_look (W : World) (r : Nat) (hb : W.heap[r]? = some (.map manys 2)) :
    (Instr.lookup 68 (.map (some r)) (.int .i64 5) false).run Tryz.prog W = .ok (.string ⟨#[32, 124, 32]⟩) W ∧
    (Instr.lookup 68 (.map (some r)) (.int .i64 6) false).run Tryz.prog W = .ok (.string ⟨#[32, 38, 32]⟩) W ∧
    (Instr.lookup 68 (.map (some r)) (.int .i64 4) false).run Tryz.prog W = .ok (.string ⟨#[]⟩) W :=
  ⟨run_look_lit _ _ manys 2 _ _ hb Tryz.underlying68 Tryz.underlying3 (by simp [MapKept.IsKey]) (by simp [manys, MapKept.IsKey]) (by simp [manys]) (by simp [manys]),
   run_look_lit _ _ manys 2 _ _ hb Tryz.underlying68 Tryz.underlying3 (by simp [MapKept.IsKey]) (by simp [manys, MapKept.IsKey]) (by simp [manys]) (by simp [manys]),
   run_look_not _ _ manys 2 _ _ hb Tryz.underlying68 Tryz.underlying3 (by simp [MapKept.IsKey]) (by simp [manys, MapKept.IsKey]) (by simp [manys]) (run_zero_string _)⟩
theorem own_keep {w w1 : World} {e : TypeId} {size n : Nat} {v : Value} {xs : List Value} (h : w.ownsRow 0 e size v n xs) (k : Kp [] w w1) : w1.ownsRow 0 e size v n xs := by
  obtain ⟨h1, h2⟩ := h
  refine ⟨h1, ?_⟩
  rcases h2 with h2 | ⟨g, cap, cur, h2, h0, h3, r⟩
  · exact .inl h2
  · exact .inr ⟨g, cap, cur, h2, h0, (k.block g (Array.getElem?_eq_some_iff.1 h3).1 (by simp)).trans h3, r⟩
theorem join_is (sep : Bs) (xs : List Bs) : Lib.join xs sep = joinT sep xs := by
  cases xs with
  | nil => rfl
  | cons x r => rw [Lib.join_cons]; simp [joinT, Lib.joinTail, List.flatMap]
set_option maxRecDepth 100000 in
set_option maxHeartbeats 4000000 in
theorem text_many5 {l : List E} (hl2 : 2 ≤ l.length) (hl3 : l.length ≤ 1000) (ht : ∀ x, x ∈ l → TX x) (hz : (E.mk 5 [] l).txt.length ≤ 100000) (A : Option Addr) (c least : Nat) (w : World) (M : Heap) (he : ExV M (.mk 5 [] l) A c) (hM : Mem w M) (hl : least ≤ 2) :
    Calls Tryz.prog 15 #[.agg #[.int .i64 5, .string (bs []), .slice A l.length c], .int .i64 (least : Nat)] w fun en w' => en = .returned (.string (bs (E.mk 5 [] l).txt)) ∧ Kp [] w w' := by
  obtain ⟨i0, hi, hzz⟩ := Option.map_eq_some_iff.1 Tryz.infoS
  simp only [Prod.mk.injEq] at hzz
  obtain ⟨hz0, hz1, hz2⟩ := hzz
  have HI := Hid.mk (And.intro hi (And.intro hz0 (And.intro hz1 hz2)))
  clear hi hz0 hz1 hz2
  obtain ⟨ba, oa, rfl⟩ := he.place (by simp [E.l]; omega)
  have HA := Hid.mk he
  have HL : Hid (∀ w, Calls Tryz.prog 38 #[.int .i64 5] w fun e w' => e = .returned (.int .i64 2) ∧ w = w') := Hid.mk (fun w => level_calls 5 w)
  have HT : Hid (∀ x, x ∈ l → ∀ A c w, ExV M x A c → Mem w M → Calls Tryz.prog 15 #[.agg #[.int .i64 x.op, .string (bs x.s), .slice A x.l.length c], .int .i64 3] w fun en w' => en = .returned (.string (bs (wt 3 x))) ∧ Kp [] w w') := Hid.mk (fun x hx A c w h1 h2 => ht x hx A c 3 w M h1 h2 (by omega))
  have hlt : ¬ (2 : Int) < (least : Int) := by omega
  have hwr : IntKind.i64.wrap 3 = 3 := by decide
  have HTX : Hid ((E.mk 5 [] l).txt = joinT [32, 124, 32] (l.map (wt 3))) := Hid.mk (by
    show joinT _ ((txts l).map (wr 3)) = _
    rw [txts_map, List.map_map]; rfl)
  have hmm := @run_makeMap Tryz.prog
  obtain ⟨i1, i2⟩ := manys_made (w.alloc (.cells #[.int .i64 5, .string (bs []), .slice (some ⟨ba, oa, none⟩) l.length c] 24))
  have i4 := manys_look ((w.alloc (.cells #[.int .i64 5, .string (bs []), .slice (some ⟨ba, oa, none⟩) l.length c] 24)).alloc (.map manys 2)) (w.alloc (.cells #[.int .i64 5, .string (bs []), .slice (some ⟨ba, oa, none⟩) l.length c] 24)).heap.size (heap_alloc_new _ _)
  replace i4 := i4.1
  rw [show (w.alloc (.cells #[.int .i64 5, .string (bs []), .slice (some ⟨ba, oa, none⟩) l.length c] 24)).heap.size = w.heap.size + 1 by simp] at i1 i2 i4
  have HM0 := Hid.mk hM
  have HW := Hid.mk (And.intro ((hM.alloc (.cells #[.int .i64 5, .string (bs []), .slice (some ⟨ba, oa, none⟩) l.length c] 24)).alloc (.map manys 2)) (((Kp.refl [] w).alloc (.cells #[.int .i64 5, .string (bs []), .slice (some ⟨ba, oa, none⟩) l.length c] 24)).alloc (.map manys 2)))
  clear ht he hM
  go_enter Tryz.func15, Tryz.ntmps15
  go_wp2_with fail
  refine (HL.out _).mono ?_
  rintro en w2 ⟨rfl, rfl⟩
  go_wp2_with fail
  clear i1 i2 i4 hmm
  go_loopg [9, 100] l.length (fun kk v9 v wr => ∃ (j : Nat), j ≤ l.length ∧ kk = l.length - j ∧ v = .int .i64 (j : Nat) ∧ Hid (wr.ownsRow 0 9 1 v9 j (strs ((l.take j).map (wt 3)))) ∧ Hid (∀ x, v9.ownBlock = some x → w.heap.size ≤ x) ∧ Mem wr M ∧ Kp [] w wr)
  case atStart => exact ⟨0, Nat.zero_le _, by simp, rfl, Hid.mk ⟨rfl, .inl ⟨rfl, rfl⟩⟩, Hid.mk (fun x hx => by simp [Value.ownBlock] at hx), HW.out.1, HW.out.2⟩
  case round =>
    obtain ⟨j, hj, hkk, rfl, HO, HB, hM', hK⟩ := hrel
    by_cases hlt2 : j < l.length
    · obtain ⟨A', c', h0, h1, h2, hxa⟩ := HA.out.at_ j hlt2
      replace h0 : cellM M ⟨ba, oa + j * 3, none⟩ = some (Value.int .i64 l[j].op) := h0
      replace h1 : cellM M ⟨ba, oa + j * 3 + 1, none⟩ = some (Value.string (bs l[j].s)) := h1
      replace h2 : cellM M ⟨ba, oa + j * 3 + 2, none⟩ = some (Value.slice A' l[j].l.length c') := h2
      replace hxa : ExV M l[j] A' c' := hxa
      have q0 := hM'.cell h0
      have q1 := hM'.cell h1
      have q2 := hM'.cell h2
      have HM2 := Hid.mk (And.intro (hM'.alloc (.cells #[.int .i64 l[j].op, .string (bs l[j].s), .slice A' l[j].l.length c'] 24)) (hK.alloc (.cells #[.int .i64 l[j].op, .string (bs l[j].s), .slice A' l[j].l.length c'] 24)))
      have HC := Hid.mk (HT.out l[j] (List.getElem_mem hlt2) A' c' _ hxa HM2.out.1)
      have HTK : Hid ((l.take (j + 1)).map (wt 3) = (l.take j).map (wt 3) ++ [wt 3 l[j]]) := Hid.mk (by rw [← List.take_append_getElem hlt2, List.map_append]; rfl)
      have HO2 := Hid.mk (own_alloc HO.out (.cells #[.int .i64 l[j].op, .string (bs l[j].s), .slice A' l[j].l.length c'] 24))
      generalize wt 3 l[j] = t at *
      have hbig : (j + 1 ≤ maxLen) ∧ (j + 1) * 16 ≤ 140737488355328 := by unfold maxLen; omega
      have HBG := Hid.mk hbig
      have hks := hK.size
      clear h0 h1 h2 hxa hM' hK hbig
      go_wp2_with fail
      refine HC.out.mono ?_
      rintro en w3 ⟨rfl, hk3⟩
      have HK3 := Hid.mk hk3
      have hs3 := hk3.size
      have HO3 := Hid.mk (own_keep HO2.out hk3)
      clear hk3 q0 q1 q2 HC
      go_wp2_with (at_builtin; go_must (refine wpList_append_lies _ rfl (.tmp 104) (.tmp 109) 30 rfl 0 9 i0 _ 1 16 Tryz.underlying30 HI.out.1 HI.out.2.1 HI.out.2.2.1 HI.out.2.2.2 rfl (Nat.succ_pos 0) _ j (strs ((l.take j).map (wt 3))) rfl (own_alloc HO3.out _) ⟨_, 0, none⟩ 1 1 [.string (bs t)] rfl rfl (str_cells (heap_alloc_new _ _)) str_one Nat.one_pos HBG.out.1 HBG.out.2 (Nat.zero_le _) _ (by simp; rfl) ?_); intro g1 cap1 w5 hown5 hgr5 hat5 hlt5)
      go_roundg (l.length - (j + 1))
      case measure => omega
      case rel =>
        have hgr' : (w3.alloc (.cells #[.string (bs t)] 9)).grownBy w5 u9.ownBlock := hgr5
        have hat' : u9.ownBlock = some g1 ∨ g1 = w3.heap.size + 1 := hat5
        have hK5 : Kp [] w w5 := Kp.grown ((HM2.out.2.trans HK3.out).alloc _) hgr' (fun x hx => .inr (HB.out x hx))
        refine ⟨j + 1, by omega, rfl, by go_num, Hid.mk ?_, Hid.mk (fun x hx => ?_), HM0.out.kp hK5 (by simp), hK5⟩
        · rw [HTK.out, strs, List.map_append]
          exact hown5
        · simp only [Value.ownBlock, Option.some.injEq] at hx
          subst hx
          rcases hat' with h | h
          · exact HB.out _ h
          · simp at hs3; omega
    · obtain rfl : j = l.length := by omega
      have hlt' : ¬ ((l.length : Int) < (l.length : Int)) := by omega
      have hO := HO.out
      rw [List.take_length] at hO
      clear HO
      obtain ⟨h1, ⟨rfl, h2⟩ | ⟨gg, cc, cur, rfl, h3, h4⟩⟩ := hO
      · omega
      · have hsl : Sl wr (fun _ => none) 9 1 gg l.length cc (strs (l.map (wt 3))) := ⟨⟨h1, .inr ⟨gg, cc, cur, rfl, h3, h4⟩⟩, rfl⟩
        obtain ⟨_, _, _, hcap, _⟩ := hsl.cells
        have HJ := Tryz.strings_Join gg 0 cc (l.map fun x => bs (wt 3 x)) ⟨#[32, 124, 32]⟩ wr (fun j x hx => by
            rw [Nat.zero_add]
            refine hsl.cell ?_
            rw [List.getElem?_map] at hx
            simp only [strs, List.getElem?_map]
            cases hj : l[j]? with
            | none => rw [hj] at hx; cases hx
            | some y => rw [hj] at hx; simp at hx; simp [hx]) hsl.lt (by simp; omega) (by simpa using hcap) (by
            have e1 : (l.map fun x => bs (wt 3 x)).map (·.data.toList) = l.map (wt 3) := by
              rw [List.map_map]; apply List.map_congr_left; intro x _; simp [bs]
            rw [e1, join_is]
            have := HTX.out
            have e2 : (⟨#[32, 124, 32]⟩ : ByteArray).data.toList = [32, 124, 32] := rfl
            rw [e2, ← this]; omega)
        rw [List.length_map] at HJ
        have HS : Hid ((⟨(Lib.join ((l.map fun x => bs (wt 3 x)).map (·.data.toList)) (⟨#[32, 124, 32]⟩ : ByteArray).data.toList).toArray⟩ : ByteArray) = bs (E.mk 5 [] l).txt) := Hid.mk (by
          have e1 : (l.map fun x => bs (wt 3 x)).map (·.data.toList) = l.map (wt 3) := by
            rw [List.map_map]; apply List.map_congr_left; intro x _; simp [bs]
          rw [e1, join_is, HTX.out]; rfl)
        rw [HS.out] at HJ
        have HJJ := Hid.mk HJ
        clear HJ h1 h3 h4 hsl hcap
        go_wp2_with fail
        refine HJJ.out.mono ?_
        rintro en w3 ⟨rfl, hk3⟩
        have HZ := Hid.mk (hK.trans (Kp.of_below hk3))
        clear hk3
        go_wp2_with fail
        go_ret
        exact ⟨rfl, HZ.out⟩
set_option maxRecDepth 100000 in
set_option maxHeartbeats 4000000 in
theorem text_many6 {l : List E} (hl2 : 2 ≤ l.length) (hl3 : l.length ≤ 1000) (ht : ∀ x, x ∈ l → TX x) (hz : (E.mk 6 [] l).txt.length ≤ 100000) (A : Option Addr) (c least : Nat) (w : World) (M : Heap) (he : ExV M (.mk 6 [] l) A c) (hM : Mem w M) (hl : least ≤ 3) :
    Calls Tryz.prog 15 #[.agg #[.int .i64 6, .string (bs []), .slice A l.length c], .int .i64 (least : Nat)] w fun en w' => en = .returned (.string (bs (E.mk 6 [] l).txt)) ∧ Kp [] w w' := by
  obtain ⟨i0, hi, hzz⟩ := Option.map_eq_some_iff.1 Tryz.infoS
  simp only [Prod.mk.injEq] at hzz
  obtain ⟨hz0, hz1, hz2⟩ := hzz
  have HI := Hid.mk (And.intro hi (And.intro hz0 (And.intro hz1 hz2)))
  clear hi hz0 hz1 hz2
  obtain ⟨ba, oa, rfl⟩ := he.place (by simp [E.l]; omega)
  have HA := Hid.mk he
  have HL : Hid (∀ w, Calls Tryz.prog 38 #[.int .i64 6] w fun e w' => e = .returned (.int .i64 3) ∧ w = w') := Hid.mk (fun w => level_calls 6 w)
  have HT : Hid (∀ x, x ∈ l → ∀ A c w, ExV M x A c → Mem w M → Calls Tryz.prog 15 #[.agg #[.int .i64 x.op, .string (bs x.s), .slice A x.l.length c], .int .i64 4] w fun en w' => en = .returned (.string (bs (wt 4 x))) ∧ Kp [] w w') := Hid.mk (fun x hx A c w h1 h2 => ht x hx A c 4 w M h1 h2 (by omega))
  have hlt : ¬ (3 : Int) < (least : Int) := by omega
  have hwr : IntKind.i64.wrap 4 = 4 := by decide
  have HTX : Hid ((E.mk 6 [] l).txt = joinT [32, 38, 32] (l.map (wt 4))) := Hid.mk (by
    show joinT _ ((txts l).map (wr 4)) = _
    rw [txts_map, List.map_map]; rfl)
  have hmm := @run_makeMap Tryz.prog
  obtain ⟨i1, i2⟩ := manys_made (w.alloc (.cells #[.int .i64 6, .string (bs []), .slice (some ⟨ba, oa, none⟩) l.length c] 24))
  have i4 := manys_look ((w.alloc (.cells #[.int .i64 6, .string (bs []), .slice (some ⟨ba, oa, none⟩) l.length c] 24)).alloc (.map manys 2)) (w.alloc (.cells #[.int .i64 6, .string (bs []), .slice (some ⟨ba, oa, none⟩) l.length c] 24)).heap.size (heap_alloc_new _ _)
  replace i4 := i4.2.1
  rw [show (w.alloc (.cells #[.int .i64 6, .string (bs []), .slice (some ⟨ba, oa, none⟩) l.length c] 24)).heap.size = w.heap.size + 1 by simp] at i1 i2 i4
  have HM0 := Hid.mk hM
  have HW := Hid.mk (And.intro ((hM.alloc (.cells #[.int .i64 6, .string (bs []), .slice (some ⟨ba, oa, none⟩) l.length c] 24)).alloc (.map manys 2)) (((Kp.refl [] w).alloc (.cells #[.int .i64 6, .string (bs []), .slice (some ⟨ba, oa, none⟩) l.length c] 24)).alloc (.map manys 2)))
  clear ht he hM
  go_enter Tryz.func15, Tryz.ntmps15
  go_wp2_with fail
  refine (HL.out _).mono ?_
  rintro en w2 ⟨rfl, rfl⟩
  go_wp2_with fail
  clear i1 i2 i4 hmm
  go_loopg [9, 100] l.length (fun kk v9 v wr => ∃ (j : Nat), j ≤ l.length ∧ kk = l.length - j ∧ v = .int .i64 (j : Nat) ∧ Hid (wr.ownsRow 0 9 1 v9 j (strs ((l.take j).map (wt 4)))) ∧ Hid (∀ x, v9.ownBlock = some x → w.heap.size ≤ x) ∧ Mem wr M ∧ Kp [] w wr)
  case atStart => exact ⟨0, Nat.zero_le _, by simp, rfl, Hid.mk ⟨rfl, .inl ⟨rfl, rfl⟩⟩, Hid.mk (fun x hx => by simp [Value.ownBlock] at hx), HW.out.1, HW.out.2⟩
  case round =>
    obtain ⟨j, hj, hkk, rfl, HO, HB, hM', hK⟩ := hrel
    by_cases hlt2 : j < l.length
    · obtain ⟨A', c', h0, h1, h2, hxa⟩ := HA.out.at_ j hlt2
      replace h0 : cellM M ⟨ba, oa + j * 3, none⟩ = some (Value.int .i64 l[j].op) := h0
      replace h1 : cellM M ⟨ba, oa + j * 3 + 1, none⟩ = some (Value.string (bs l[j].s)) := h1
      replace h2 : cellM M ⟨ba, oa + j * 3 + 2, none⟩ = some (Value.slice A' l[j].l.length c') := h2
      replace hxa : ExV M l[j] A' c' := hxa
      have q0 := hM'.cell h0
      have q1 := hM'.cell h1
      have q2 := hM'.cell h2
      have HM2 := Hid.mk (And.intro (hM'.alloc (.cells #[.int .i64 l[j].op, .string (bs l[j].s), .slice A' l[j].l.length c'] 24)) (hK.alloc (.cells #[.int .i64 l[j].op, .string (bs l[j].s), .slice A' l[j].l.length c'] 24)))
      have HC := Hid.mk (HT.out l[j] (List.getElem_mem hlt2) A' c' _ hxa HM2.out.1)
      have HTK : Hid ((l.take (j + 1)).map (wt 4) = (l.take j).map (wt 4) ++ [wt 4 l[j]]) := Hid.mk (by rw [← List.take_append_getElem hlt2, List.map_append]; rfl)
      have HO2 := Hid.mk (own_alloc HO.out (.cells #[.int .i64 l[j].op, .string (bs l[j].s), .slice A' l[j].l.length c'] 24))
      generalize wt 4 l[j] = t at *
      have hbig : (j + 1 ≤ maxLen) ∧ (j + 1) * 16 ≤ 140737488355328 := by unfold maxLen; omega
      have HBG := Hid.mk hbig
      have hks := hK.size
      clear h0 h1 h2 hxa hM' hK hbig
      go_wp2_with fail
      refine HC.out.mono ?_
      rintro en w3 ⟨rfl, hk3⟩
      have HK3 := Hid.mk hk3
      have hs3 := hk3.size
      have HO3 := Hid.mk (own_keep HO2.out hk3)
      clear hk3 q0 q1 q2 HC
      go_wp2_with (at_builtin; go_must (refine wpList_append_lies _ rfl (.tmp 104) (.tmp 109) 30 rfl 0 9 i0 _ 1 16 Tryz.underlying30 HI.out.1 HI.out.2.1 HI.out.2.2.1 HI.out.2.2.2 rfl (Nat.succ_pos 0) _ j (strs ((l.take j).map (wt 4))) rfl (own_alloc HO3.out _) ⟨_, 0, none⟩ 1 1 [.string (bs t)] rfl rfl (str_cells (heap_alloc_new _ _)) str_one Nat.one_pos HBG.out.1 HBG.out.2 (Nat.zero_le _) _ (by simp; rfl) ?_); intro g1 cap1 w5 hown5 hgr5 hat5 hlt5)
      go_roundg (l.length - (j + 1))
      case measure => omega
      case rel =>
        have hgr' : (w3.alloc (.cells #[.string (bs t)] 9)).grownBy w5 u9.ownBlock := hgr5
        have hat' : u9.ownBlock = some g1 ∨ g1 = w3.heap.size + 1 := hat5
        have hK5 : Kp [] w w5 := Kp.grown ((HM2.out.2.trans HK3.out).alloc _) hgr' (fun x hx => .inr (HB.out x hx))
        refine ⟨j + 1, by omega, rfl, by go_num, Hid.mk ?_, Hid.mk (fun x hx => ?_), HM0.out.kp hK5 (by simp), hK5⟩
        · rw [HTK.out, strs, List.map_append]
          exact hown5
        · simp only [Value.ownBlock, Option.some.injEq] at hx
          subst hx
          rcases hat' with h | h
          · exact HB.out _ h
          · simp at hs3; omega
    · obtain rfl : j = l.length := by omega
      have hlt' : ¬ ((l.length : Int) < (l.length : Int)) := by omega
      have hO := HO.out
      rw [List.take_length] at hO
      clear HO
      obtain ⟨h1, ⟨rfl, h2⟩ | ⟨gg, cc, cur, rfl, h3, h4⟩⟩ := hO
      · omega
      · have hsl : Sl wr (fun _ => none) 9 1 gg l.length cc (strs (l.map (wt 4))) := ⟨⟨h1, .inr ⟨gg, cc, cur, rfl, h3, h4⟩⟩, rfl⟩
        obtain ⟨_, _, _, hcap, _⟩ := hsl.cells
        have HJ := Tryz.strings_Join gg 0 cc (l.map fun x => bs (wt 4 x)) ⟨#[32, 38, 32]⟩ wr (fun j x hx => by
            rw [Nat.zero_add]
            refine hsl.cell ?_
            rw [List.getElem?_map] at hx
            simp only [strs, List.getElem?_map]
            cases hj : l[j]? with
            | none => rw [hj] at hx; cases hx
            | some y => rw [hj] at hx; simp at hx; simp [hx]) hsl.lt (by simp; omega) (by simpa using hcap) (by
            have e1 : (l.map fun x => bs (wt 4 x)).map (·.data.toList) = l.map (wt 4) := by
              rw [List.map_map]; apply List.map_congr_left; intro x _; simp [bs]
            rw [e1, join_is]
            have := HTX.out
            have e2 : (⟨#[32, 38, 32]⟩ : ByteArray).data.toList = [32, 38, 32] := rfl
            rw [e2, ← this]; omega)
        rw [List.length_map] at HJ
        have HS : Hid ((⟨(Lib.join ((l.map fun x => bs (wt 4 x)).map (·.data.toList)) (⟨#[32, 38, 32]⟩ : ByteArray).data.toList).toArray⟩ : ByteArray) = bs (E.mk 6 [] l).txt) := Hid.mk (by
          have e1 : (l.map fun x => bs (wt 4 x)).map (·.data.toList) = l.map (wt 4) := by
            rw [List.map_map]; apply List.map_congr_left; intro x _; simp [bs]
          rw [e1, join_is, HTX.out]; rfl)
        rw [HS.out] at HJ
        have HJJ := Hid.mk HJ
        clear HJ h1 h3 h4 hsl hcap
        go_wp2_with fail
        refine HJJ.out.mono ?_
        rintro en w3 ⟨rfl, hk3⟩
        have HZ := Hid.mk (hK.trans (Kp.of_below hk3))
        clear hk3
        go_wp2_with fail
        go_ret
        exact ⟨rfl, HZ.out⟩
set_option maxRecDepth 100000 in
set_option maxHeartbeats 4000000 in
theorem text_many4 {l : List E} (hl2 : 2 ≤ l.length) (hl3 : l.length ≤ 1000) (ht : ∀ x, x ∈ l → TX x) (hz : (E.mk 4 [] l).txt.length ≤ 100000) (A : Option Addr) (c least : Nat) (w : World) (M : Heap) (he : ExV M (.mk 4 [] l) A c) (hM : Mem w M) (hl : least ≤ 6) :
    Calls Tryz.prog 15 #[.agg #[.int .i64 4, .string (bs []), .slice A l.length c], .int .i64 (least : Nat)] w fun en w' => en = .returned (.string (bs (E.mk 4 [] l).txt)) ∧ Kp [] w w' := by
  obtain ⟨i0, hi, hzz⟩ := Option.map_eq_some_iff.1 Tryz.infoS
  simp only [Prod.mk.injEq] at hzz
  obtain ⟨hz0, hz1, hz2⟩ := hzz
  have HI := Hid.mk (And.intro hi (And.intro hz0 (And.intro hz1 hz2)))
  clear hi hz0 hz1 hz2
  obtain ⟨ba, oa, rfl⟩ := he.place (by simp [E.l]; omega)
  have HA := Hid.mk he
  have HL : Hid (∀ w, Calls Tryz.prog 38 #[.int .i64 4] w fun e w' => e = .returned (.int .i64 6) ∧ w = w') := Hid.mk (fun w => level_calls 4 w)
  have HT : Hid (∀ x, x ∈ l → ∀ A c w, ExV M x A c → Mem w M → Calls Tryz.prog 15 #[.agg #[.int .i64 x.op, .string (bs x.s), .slice A x.l.length c], .int .i64 7] w fun en w' => en = .returned (.string (bs (wt 7 x))) ∧ Kp [] w w') := Hid.mk (fun x hx A c w h1 h2 => ht x hx A c 7 w M h1 h2 (by omega))
  have hlt : ¬ (6 : Int) < (least : Int) := by omega
  have hwr : IntKind.i64.wrap 7 = 7 := by decide
  have HTX : Hid ((E.mk 4 [] l).txt = joinT [] (l.map (wt 7))) := Hid.mk (by
    show joinT _ ((txts l).map (wr 7)) = _
    rw [txts_map, List.map_map]; rfl)
  have hmm := @run_makeMap Tryz.prog
  obtain ⟨i1, i2⟩ := manys_made (w.alloc (.cells #[.int .i64 4, .string (bs []), .slice (some ⟨ba, oa, none⟩) l.length c] 24))
  have i4 := manys_look ((w.alloc (.cells #[.int .i64 4, .string (bs []), .slice (some ⟨ba, oa, none⟩) l.length c] 24)).alloc (.map manys 2)) (w.alloc (.cells #[.int .i64 4, .string (bs []), .slice (some ⟨ba, oa, none⟩) l.length c] 24)).heap.size (heap_alloc_new _ _)
  replace i4 := i4.2.2
  rw [show (w.alloc (.cells #[.int .i64 4, .string (bs []), .slice (some ⟨ba, oa, none⟩) l.length c] 24)).heap.size = w.heap.size + 1 by simp] at i1 i2 i4
  have HM0 := Hid.mk hM
  have HW := Hid.mk (And.intro ((hM.alloc (.cells #[.int .i64 4, .string (bs []), .slice (some ⟨ba, oa, none⟩) l.length c] 24)).alloc (.map manys 2)) (((Kp.refl [] w).alloc (.cells #[.int .i64 4, .string (bs []), .slice (some ⟨ba, oa, none⟩) l.length c] 24)).alloc (.map manys 2)))
  clear ht he hM
  go_enter Tryz.func15, Tryz.ntmps15
  go_wp2_with fail
  refine (HL.out _).mono ?_
  rintro en w2 ⟨rfl, rfl⟩
  go_wp2_with fail
  clear i1 i2 i4 hmm
  go_loopg [9, 100] l.length (fun kk v9 v wr => ∃ (j : Nat), j ≤ l.length ∧ kk = l.length - j ∧ v = .int .i64 (j : Nat) ∧ Hid (wr.ownsRow 0 9 1 v9 j (strs ((l.take j).map (wt 7)))) ∧ Hid (∀ x, v9.ownBlock = some x → w.heap.size ≤ x) ∧ Mem wr M ∧ Kp [] w wr)
  case atStart => exact ⟨0, Nat.zero_le _, by simp, rfl, Hid.mk ⟨rfl, .inl ⟨rfl, rfl⟩⟩, Hid.mk (fun x hx => by simp [Value.ownBlock] at hx), HW.out.1, HW.out.2⟩
  case round =>
    obtain ⟨j, hj, hkk, rfl, HO, HB, hM', hK⟩ := hrel
    by_cases hlt2 : j < l.length
    · obtain ⟨A', c', h0, h1, h2, hxa⟩ := HA.out.at_ j hlt2
      replace h0 : cellM M ⟨ba, oa + j * 3, none⟩ = some (Value.int .i64 l[j].op) := h0
      replace h1 : cellM M ⟨ba, oa + j * 3 + 1, none⟩ = some (Value.string (bs l[j].s)) := h1
      replace h2 : cellM M ⟨ba, oa + j * 3 + 2, none⟩ = some (Value.slice A' l[j].l.length c') := h2
      replace hxa : ExV M l[j] A' c' := hxa
      have q0 := hM'.cell h0
      have q1 := hM'.cell h1
      have q2 := hM'.cell h2
      have HM2 := Hid.mk (And.intro (hM'.alloc (.cells #[.int .i64 l[j].op, .string (bs l[j].s), .slice A' l[j].l.length c'] 24)) (hK.alloc (.cells #[.int .i64 l[j].op, .string (bs l[j].s), .slice A' l[j].l.length c'] 24)))
      have HC := Hid.mk (HT.out l[j] (List.getElem_mem hlt2) A' c' _ hxa HM2.out.1)
      have HTK : Hid ((l.take (j + 1)).map (wt 7) = (l.take j).map (wt 7) ++ [wt 7 l[j]]) := Hid.mk (by rw [← List.take_append_getElem hlt2, List.map_append]; rfl)
      have HO2 := Hid.mk (own_alloc HO.out (.cells #[.int .i64 l[j].op, .string (bs l[j].s), .slice A' l[j].l.length c'] 24))
      generalize wt 7 l[j] = t at *
      have hbig : (j + 1 ≤ maxLen) ∧ (j + 1) * 16 ≤ 140737488355328 := by unfold maxLen; omega
      have HBG := Hid.mk hbig
      have hks := hK.size
      clear h0 h1 h2 hxa hM' hK hbig
      go_wp2_with fail
      refine HC.out.mono ?_
      rintro en w3 ⟨rfl, hk3⟩
      have HK3 := Hid.mk hk3
      have hs3 := hk3.size
      have HO3 := Hid.mk (own_keep HO2.out hk3)
      clear hk3 q0 q1 q2 HC
      go_wp2_with (at_builtin; go_must (refine wpList_append_lies _ rfl (.tmp 104) (.tmp 109) 30 rfl 0 9 i0 _ 1 16 Tryz.underlying30 HI.out.1 HI.out.2.1 HI.out.2.2.1 HI.out.2.2.2 rfl (Nat.succ_pos 0) _ j (strs ((l.take j).map (wt 7))) rfl (own_alloc HO3.out _) ⟨_, 0, none⟩ 1 1 [.string (bs t)] rfl rfl (str_cells (heap_alloc_new _ _)) str_one Nat.one_pos HBG.out.1 HBG.out.2 (Nat.zero_le _) _ (by simp; rfl) ?_); intro g1 cap1 w5 hown5 hgr5 hat5 hlt5)
      go_roundg (l.length - (j + 1))
      case measure => omega
      case rel =>
        have hgr' : (w3.alloc (.cells #[.string (bs t)] 9)).grownBy w5 u9.ownBlock := hgr5
        have hat' : u9.ownBlock = some g1 ∨ g1 = w3.heap.size + 1 := hat5
        have hK5 : Kp [] w w5 := Kp.grown ((HM2.out.2.trans HK3.out).alloc _) hgr' (fun x hx => .inr (HB.out x hx))
        refine ⟨j + 1, by omega, rfl, by go_num, Hid.mk ?_, Hid.mk (fun x hx => ?_), HM0.out.kp hK5 (by simp), hK5⟩
        · rw [HTK.out, strs, List.map_append]
          exact hown5
        · simp only [Value.ownBlock, Option.some.injEq] at hx
          subst hx
          rcases hat' with h | h
          · exact HB.out _ h
          · simp at hs3; omega
    · obtain rfl : j = l.length := by omega
      have hlt' : ¬ ((l.length : Int) < (l.length : Int)) := by omega
      have hO := HO.out
      rw [List.take_length] at hO
      clear HO
      obtain ⟨h1, ⟨rfl, h2⟩ | ⟨gg, cc, cur, rfl, h3, h4⟩⟩ := hO
      · omega
      · have hsl : Sl wr (fun _ => none) 9 1 gg l.length cc (strs (l.map (wt 7))) := ⟨⟨h1, .inr ⟨gg, cc, cur, rfl, h3, h4⟩⟩, rfl⟩
        obtain ⟨_, _, _, hcap, _⟩ := hsl.cells
        have HJ := Tryz.strings_Join gg 0 cc (l.map fun x => bs (wt 7 x)) ⟨#[]⟩ wr (fun j x hx => by
            rw [Nat.zero_add]
            refine hsl.cell ?_
            rw [List.getElem?_map] at hx
            simp only [strs, List.getElem?_map]
            cases hj : l[j]? with
            | none => rw [hj] at hx; cases hx
            | some y => rw [hj] at hx; simp at hx; simp [hx]) hsl.lt (by simp; omega) (by simpa using hcap) (by
            have e1 : (l.map fun x => bs (wt 7 x)).map (·.data.toList) = l.map (wt 7) := by
              rw [List.map_map]; apply List.map_congr_left; intro x _; simp [bs]
            rw [e1, join_is]
            have := HTX.out
            have e2 : (⟨#[]⟩ : ByteArray).data.toList = [] := rfl
            rw [e2, ← this]; omega)
        rw [List.length_map] at HJ
        have HS : Hid ((⟨(Lib.join ((l.map fun x => bs (wt 7 x)).map (·.data.toList)) (⟨#[]⟩ : ByteArray).data.toList).toArray⟩ : ByteArray) = bs (E.mk 4 [] l).txt) := Hid.mk (by
          have e1 : (l.map fun x => bs (wt 7 x)).map (·.data.toList) = l.map (wt 7) := by
            rw [List.map_map]; apply List.map_congr_left; intro x _; simp [bs]
          rw [e1, join_is, HTX.out]; rfl)
        rw [HS.out] at HJ
        have HJJ := Hid.mk HJ
        clear HJ h1 h3 h4 hsl hcap
        go_wp2_with fail
        refine HJJ.out.mono ?_
        rintro en w3 ⟨rfl, hk3⟩
        have HZ := Hid.mk (hK.trans (Kp.of_below hk3))
        clear hk3
        go_wp2_with fail
        go_ret
        exact ⟨rfl, HZ.out⟩
end Go.Proofs.YtgdnhlckodhhgaaGreat

/-
  The text of a restriction, by the program.
-/
namespace Go.Proofs.YtgdnhlckodhhgaaGreat
open Go.RowKit
set_option linter.unusedVariables false
set_option linter.unusedSimpArgs false
set_option maxRecDepth 100000 in
set_option maxHeartbeats 8000000 in
theorem text_only {a b d : E} (ha : TX a) (hb : TX b) (hd : TX d) (hz : a.txt.length ≤ 100000) (hzb : b.txt.length ≤ 100000) (hzd : d.txt.length ≤ 100000) (A : Option Addr) (c : Nat) (w : World) (M : Heap) (he : ExV M (.mk 14 [] [a, b, d]) A c) (hM : Mem w M) :
    Calls Tryz.prog 15 #[.agg #[.int .i64 14, .string (bs []), .slice A 3 c], .int .i64 0] w fun en w' => en = .returned (.string (bs (E.mk 14 [] [a, b, d]).txt)) ∧ Kp [] w w' := by
  obtain ⟨ba, oa, rfl⟩ := he.place (by simp [E.l])
  obtain ⟨A', a', hxa, hca⟩ := kid_cells he 0 (by simp [E.l])
  obtain ⟨B', b', hxb, hcb⟩ := kid_cells he 1 (by simp [E.l])
  obtain ⟨D', d', hxd, hcd⟩ := kid_cells he 2 (by simp [E.l])
  replace hxa : ExV M a A' a' := hxa
  replace hxb : ExV M b B' b' := hxb
  replace hxd : ExV M d D' d' := hxd
  rw [show oa + 0 * 3 = oa by omega] at hca
  rw [show oa + 1 * 3 = oa + 3 by omega] at hcb
  rw [show oa + 2 * 3 = oa + 6 by omega] at hcd
  replace hca : ∀ w, Mem w M → w.cell? ⟨ba, oa, none⟩ = some (Value.int .i64 a.op) ∧ w.cell? ⟨ba, oa + 1, none⟩ = some (Value.string (bs a.s)) ∧ w.cell? ⟨ba, oa + 2, none⟩ = some (Value.slice A' a.l.length a') := hca
  replace hcb : ∀ w, Mem w M → w.cell? ⟨ba, oa + 3, none⟩ = some (Value.int .i64 b.op) ∧ w.cell? ⟨ba, oa + 3 + 1, none⟩ = some (Value.string (bs b.s)) ∧ w.cell? ⟨ba, oa + 3 + 2, none⟩ = some (Value.slice B' b.l.length b') := hcb
  replace hcd : ∀ w, Mem w M → w.cell? ⟨ba, oa + 6, none⟩ = some (Value.int .i64 d.op) ∧ w.cell? ⟨ba, oa + 6 + 1, none⟩ = some (Value.string (bs d.s)) ∧ w.cell? ⟨ba, oa + 6 + 2, none⟩ = some (Value.slice D' d.l.length d') := hcd
  have HA : Hid (∀ w, Mem w M → Calls Tryz.prog 15 #[.agg #[.int .i64 a.op, .string (bs a.s), .slice A' a.l.length a'], .int .i64 1] w fun en w' => en = .returned (.string (bs (wt 1 a))) ∧ Kp [] w w') := Hid.mk (fun w hM => ha A' a' 1 w M hxa hM (by omega))
  have HB : Hid (∀ w, Mem w M → Calls Tryz.prog 15 #[.agg #[.int .i64 b.op, .string (bs b.s), .slice B' b.l.length b'], .int .i64 1] w fun en w' => en = .returned (.string (bs (wt 1 b))) ∧ Kp [] w w') := Hid.mk (fun w hM => hb B' b' 1 w M hxb hM (by omega))
  have HD : Hid (∀ w, Mem w M → Calls Tryz.prog 15 #[.agg #[.int .i64 d.op, .string (bs d.s), .slice D' d.l.length d'], .int .i64 1] w fun en w' => en = .returned (.string (bs (wt 1 d))) ∧ Kp [] w w') := Hid.mk (fun w hM => hd D' d' 1 w M hxd hM (by omega))
  have HL : Hid (∀ w, Calls Tryz.prog 38 #[.int .i64 14] w fun e w' => e = .returned (.int .i64 0) ∧ w = w') := Hid.mk (fun w => level_calls 14 w)
  have hta : (wt 1 a).length ≤ 100002 := by have := wt_len 1 a; omega
  have htb : (wt 1 b).length ≤ 100002 := by have := wt_len 1 b; omega
  have htd : (wt 1 d).length ≤ 100002 := by have := wt_len 1 d; omega
  have HTX : Hid ((E.mk 14 [] [a, b, d]).txt = wt 1 a ++ ([32, 61, 62, 32] ++ ((if b.op = 2 then [] else wt 1 b ++ [32]) ++ (95 :: (if d.op = 2 then [] else 32 :: wt 1 d))))) := Hid.mk rfl
  have hsa := bs_size (wt 1 a)
  have hsb := bs_size (wt 1 b)
  have hsd := bs_size (wt 1 d)
  generalize wt 1 a = t at *
  generalize wt 1 b = u at *
  generalize wt 1 d = v at *
  have H0 : Hid (∀ w', Kp [] (w.alloc (.cells #[.int .i64 14, .string (bs []), .slice (some ⟨ba, oa, none⟩) 3 c] 24)) w' → Mem w' M ∧ (w'.cell? ⟨w.heap.size, 2, none⟩ = some (.slice (some ⟨ba, oa, none⟩) 3 c) ∧ (w'.cell? ⟨ba, oa, none⟩ = some (.int .i64 a.op) ∧ w'.cell? ⟨ba, oa + 1, none⟩ = some (.string (bs a.s)) ∧ w'.cell? ⟨ba, oa + 2, none⟩ = some (.slice A' a.l.length a')) ∧ (w'.cell? ⟨ba, oa + 3, none⟩ = some (.int .i64 b.op) ∧ w'.cell? ⟨ba, oa + 3 + 1, none⟩ = some (.string (bs b.s)) ∧ w'.cell? ⟨ba, oa + 3 + 2, none⟩ = some (.slice B' b.l.length b')) ∧ (w'.cell? ⟨ba, oa + 6, none⟩ = some (.int .i64 d.op) ∧ w'.cell? ⟨ba, oa + 6 + 1, none⟩ = some (.string (bs d.s)) ∧ w'.cell? ⟨ba, oa + 6 + 2, none⟩ = some (.slice D' d.l.length d'))) ∧ Kp [] w w') := Hid.mk (fun w' hk => by
    have hm := (hM.alloc (.cells #[.int .i64 14, .string (bs []), .slice (some ⟨ba, oa, none⟩) 3 c] 24)).kp hk (by simp)
    have hx := (Box.new hM #[.int .i64 14, .string (bs []), .slice (some ⟨ba, oa, none⟩) 3 c] 24).same hk (by simp)
    exact ⟨hm, ⟨hx.three.1.2.2, hca _ hm, hcb _ hm, hcd _ hm⟩, ((Kp.refl _ _).alloc _).trans hk⟩)
  clear ha hb hd hca hcb hcd hxa hxb hxd hM he
  have hb2 : (b.op = 2 ∧ (b.op != 2) = false) ∨ (¬ b.op = 2 ∧ (b.op != 2) = true) := by
    by_cases h : b.op = 2
    · exact .inl ⟨h, by simp [h]⟩
    · exact .inr ⟨h, by simpa using h⟩
  have hd2 : (d.op = 2 ∧ (d.op != 2) = false) ∨ (¬ d.op = 2 ∧ (d.op != 2) = true) := by
    by_cases h : d.op = 2
    · exact .inl ⟨h, by simp [h]⟩
    · exact .inr ⟨h, by simpa using h⟩
  rcases hb2 with ⟨hb2, hbb⟩ | ⟨hb2, hbb⟩
  · rcases hd2 with ⟨hd2, hdd⟩ | ⟨hd2, hdd⟩
    · have HS : Hid (bs t ++ bs [32, 61, 62, 32] ++ bs [95] = bs (E.mk 14 [] [a, b, d]).txt) := Hid.mk (by rw [HTX.out, if_pos hb2, if_pos hd2, bs_cat, bs_cat]; simp)
      clear hb2 hd2 HTX
      generalize hob : b.op = ob at *
      generalize hod : d.op = od at *
      clear hob hod
      go_enter Tryz.func15, Tryz.ntmps15
      go_wp2_with fail
      refine (HL.out _).mono ?_
      rintro en w2 ⟨rfl, rfl⟩
      obtain ⟨hM1, ⟨z0, ⟨a0, a1, a2⟩, ⟨b0, b1, b2⟩, ⟨d0, d1, d2⟩⟩, hK1⟩ := H0.out _ (Kp.refl _ _)
      have HK1 := Hid.mk (And.intro hM1 hK1)
      clear hM1 hK1
      go_wp2_with fail
      refine (HA.out _ HK1.out.1).mono ?_
      rintro en w3 ⟨rfl, hk3⟩
      clear z0 a0 a1 a2 b0 b1 b2 d0 d1 d2
      obtain ⟨hM1, ⟨z0, ⟨a0, a1, a2⟩, ⟨b0, b1, b2⟩, ⟨d0, d1, d2⟩⟩, hK1⟩ := H0.out _ hk3
      have HK3 := Hid.mk (And.intro hM1 hK1)
      clear hM1 hK1 hk3
      go_wp2_with fail
      go_ret
      exact ⟨by rw [← HS.out]; rfl, HK3.out.2⟩
    · have HS : Hid (bs t ++ bs [32, 61, 62, 32] ++ bs [95] ++ (bs [32] ++ bs v) = bs (E.mk 14 [] [a, b, d]).txt) := Hid.mk (by rw [HTX.out, if_pos hb2, if_neg hd2, bs_cat, bs_cat, bs_cat, bs_cat]; simp)
      clear hb2 hd2 HTX
      go_enter Tryz.func15, Tryz.ntmps15
      go_wp2_with fail
      refine (HL.out _).mono ?_
      rintro en w2 ⟨rfl, rfl⟩
      obtain ⟨hM1, ⟨z0, ⟨a0, a1, a2⟩, ⟨b0, b1, b2⟩, ⟨d0, d1, d2⟩⟩, hK1⟩ := H0.out _ (Kp.refl _ _)
      have HK1 := Hid.mk (And.intro hM1 hK1)
      clear hM1 hK1
      go_wp2_with fail
      refine (HA.out _ HK1.out.1).mono ?_
      rintro en w3 ⟨rfl, hk3⟩
      clear z0 a0 a1 a2 b0 b1 b2 d0 d1 d2
      obtain ⟨hM1, ⟨z0, ⟨a0, a1, a2⟩, ⟨b0, b1, b2⟩, ⟨d0, d1, d2⟩⟩, hK1⟩ := H0.out _ hk3
      have HK3 := Hid.mk (And.intro hM1 (And.intro hK1 hk3))
      clear hM1 hK1 hk3
      go_wp2_with fail
      refine (HD.out _ HK3.out.1).mono ?_
      rintro en w4 ⟨rfl, hk4⟩
      have HK4 := Hid.mk (HK3.out.2.1.trans hk4)
      clear hk4 z0 a0 a1 a2 b0 b1 b2 d0 d1 d2
      go_wp2_with fail
      go_ret
      exact ⟨by rw [← HS.out]; rfl, HK4.out⟩
  · rcases hd2 with ⟨hd2, hdd⟩ | ⟨hd2, hdd⟩
    · have HS : Hid (bs t ++ bs [32, 61, 62, 32] ++ (bs u ++ bs [32]) ++ bs [95] = bs (E.mk 14 [] [a, b, d]).txt) := Hid.mk (by rw [HTX.out, if_neg hb2, if_pos hd2, bs_cat, bs_cat, bs_cat, bs_cat]; simp)
      clear hb2 hd2 HTX
      go_enter Tryz.func15, Tryz.ntmps15
      go_wp2_with fail
      refine (HL.out _).mono ?_
      rintro en w2 ⟨rfl, rfl⟩
      obtain ⟨hM1, ⟨z0, ⟨a0, a1, a2⟩, ⟨b0, b1, b2⟩, ⟨d0, d1, d2⟩⟩, hK1⟩ := H0.out _ (Kp.refl _ _)
      have HK1 := Hid.mk (And.intro hM1 hK1)
      clear hM1 hK1
      go_wp2_with fail
      refine (HA.out _ HK1.out.1).mono ?_
      rintro en w3 ⟨rfl, hk3⟩
      clear z0 a0 a1 a2 b0 b1 b2 d0 d1 d2
      obtain ⟨hM1, ⟨z0, ⟨a0, a1, a2⟩, ⟨b0, b1, b2⟩, ⟨d0, d1, d2⟩⟩, hK1⟩ := H0.out _ hk3
      have HK3 := Hid.mk (And.intro hM1 (And.intro hK1 hk3))
      clear hM1 hK1 hk3
      go_wp2_with fail
      refine (HB.out _ HK3.out.1).mono ?_
      rintro en w4 ⟨rfl, hk4⟩
      clear z0 a0 a1 a2 b0 b1 b2 d0 d1 d2
      obtain ⟨hM1, ⟨z0, ⟨a0, a1, a2⟩, ⟨b0, b1, b2⟩, ⟨d0, d1, d2⟩⟩, hK1⟩ := H0.out _ (HK3.out.2.2.trans hk4)
      have HK4 := Hid.mk (And.intro hM1 hK1)
      clear hM1 hK1 hk4
      go_wp2_with fail
      go_ret
      exact ⟨by rw [← HS.out]; rfl, HK4.out.2⟩
    · have HS : Hid (bs t ++ bs [32, 61, 62, 32] ++ (bs u ++ bs [32]) ++ bs [95] ++ (bs [32] ++ bs v) = bs (E.mk 14 [] [a, b, d]).txt) := Hid.mk (by rw [HTX.out, if_neg hb2, if_neg hd2, bs_cat, bs_cat, bs_cat, bs_cat, bs_cat, bs_cat]; simp)
      clear hb2 hd2 HTX
      go_enter Tryz.func15, Tryz.ntmps15
      go_wp2_with fail
      refine (HL.out _).mono ?_
      rintro en w2 ⟨rfl, rfl⟩
      obtain ⟨hM1, ⟨z0, ⟨a0, a1, a2⟩, ⟨b0, b1, b2⟩, ⟨d0, d1, d2⟩⟩, hK1⟩ := H0.out _ (Kp.refl _ _)
      have HK1 := Hid.mk (And.intro hM1 hK1)
      clear hM1 hK1
      go_wp2_with fail
      refine (HA.out _ HK1.out.1).mono ?_
      rintro en w3 ⟨rfl, hk3⟩
      clear z0 a0 a1 a2 b0 b1 b2 d0 d1 d2
      obtain ⟨hM1, ⟨z0, ⟨a0, a1, a2⟩, ⟨b0, b1, b2⟩, ⟨d0, d1, d2⟩⟩, hK1⟩ := H0.out _ hk3
      have HK3 := Hid.mk (And.intro hM1 (And.intro hK1 hk3))
      clear hM1 hK1 hk3
      go_wp2_with fail
      refine (HB.out _ HK3.out.1).mono ?_
      rintro en w4 ⟨rfl, hk4⟩
      clear z0 a0 a1 a2 b0 b1 b2 d0 d1 d2
      obtain ⟨hM1, ⟨z0, ⟨a0, a1, a2⟩, ⟨b0, b1, b2⟩, ⟨d0, d1, d2⟩⟩, hK1⟩ := H0.out _ (HK3.out.2.2.trans hk4)
      have HK4 := Hid.mk (And.intro hM1 hK1)
      clear hM1 hK1 hk4
      go_wp2_with fail
      refine (HD.out _ HK4.out.1).mono ?_
      rintro en w5 ⟨rfl, hk5⟩
      have HK5 := Hid.mk (HK4.out.2.trans hk5)
      clear hk5 z0 a0 a1 a2 b0 b1 b2 d0 d1 d2
      go_wp2_with fail
      go_ret
      exact ⟨by rw [← HS.out]; rfl, HK5.out⟩
end Go.Proofs.YtgdnhlckodhhgaaGreat
