/-
  The asker: what it asks of a node (either, both, has).
-/
import Derived.Test.YtgdnhlckodhhgaaGreatDoorJVB
namespace Go.Proofs.YtgdnhlckodhhgaaGreatDoor
open Go.RowKit
set_option linter.unusedVariables false
set_option linter.unusedSimpArgs false
theorem cap_one (x y : Value) : (#[x] : Array Value) ++ #[y] = #[x, y] := rfl
theorem cap_two (x y z : Value) : (#[x] : Array Value) ++ #[y, z] = #[x, y, z] := rfl
set_option maxRecDepth 100000 in
set_option maxHeartbeats 8000000 in
theorem ask_op5 {M : Heap} {ga gm L b c : Nat} {V : Nat → Bs → Bool} {nd : Nd} {A : Option Addr} {bj : Nat → Nat} (hL : L ≤ 1000) (hb : M b = some (.cells #[.int .i64 (nd.num : Nat), .int .i64 nd.op, .string (bs nd.s), .slice A nd.l.length c] 118 (0, 0)))
    (hrow : ∀ j, (h : j < nd.l.length) → ∃ bb o, A = some ⟨bb, o, none⟩ ∧ cellM M ⟨bb, o + j, none⟩ = some (.pointer (some ⟨bj j, 0, none⟩))) (hl : nd.l.length ≤ 1000000)
    (hk : ∀ j, (h : j < nd.l.length) → HSp 38 M ga gm V nd.l[j] (bj j) L) (hop : nd.op = 5) (hlen : 0 < nd.l.length) : HSp 78 M ga gm V nd b L := by
  intro u w hu hM hA
  have hz := bs_size u
  have hzt := bs_toList u
  obtain ⟨hga, hgm⟩ := hA.lt
  have hc1 : cellM M ⟨b, 1, none⟩ = some (.int .i64 nd.op) := by simp [cellM, hb]
  have hc3 : cellM M ⟨b, 3, none⟩ = some (.slice A nd.l.length c) := by simp [cellM, hb]
  have HE' := Hid.mk (ev_eq nd)
  obtain ⟨hx0, hx1⟩ := two_boxesH hM #[.pointer (some ⟨ga, 0, none⟩)] #[.string (bs u)] 64 9
  have hM2 := (hM.alloc (.cells #[.pointer (some ⟨ga, 0, none⟩)] 64)).alloc (.cells #[.string (bs u)] 9)
  have hx2 := Box.new hM2 #[.func (.func 116) #[] #[.pointer (some ⟨w.heap.size, 0, none⟩), .pointer (some ⟨w.heap.size + 1, 0, none⟩)]] 165
  have hss : ((w.alloc (.cells #[.pointer (some ⟨ga, 0, none⟩)] 64)).alloc (.cells #[.string (bs u)] 9)).heap.size = w.heap.size + 2 := by simp
  rw [hss] at hx2
  have hx0 := hx0.alloc (.cells #[.func (.func 116) #[] #[.pointer (some ⟨w.heap.size, 0, none⟩), .pointer (some ⟨w.heap.size + 1, 0, none⟩)]] 165)
  have hx1 := hx1.alloc (.cells #[.func (.func 116) #[] #[.pointer (some ⟨w.heap.size, 0, none⟩), .pointer (some ⟨w.heap.size + 1, 0, none⟩)]] 165)
  have hM3 := hM2.alloc (.cells #[.func (.func 116) #[] #[.pointer (some ⟨w.heap.size, 0, none⟩), .pointer (some ⟨w.heap.size + 1, 0, none⟩)]] 165)
  have hA3 := ((hA.alloc (.cells #[.pointer (some ⟨ga, 0, none⟩)] 64)).alloc (.cells #[.string (bs u)] 9)).alloc (.cells #[.func (.func 116) #[] #[.pointer (some ⟨w.heap.size, 0, none⟩), .pointer (some ⟨w.heap.size + 1, 0, none⟩)]] 165)
  have hK3 := (((Kp.refl [gm] w).alloc (.cells #[.pointer (some ⟨ga, 0, none⟩)] 64)).alloc (.cells #[.string (bs u)] 9)).alloc (.cells #[.func (.func 116) #[] #[.pointer (some ⟨w.heap.size, 0, none⟩), .pointer (some ⟨w.heap.size + 1, 0, none⟩)]] 165)
  clear hM2 hss
  have HR := Hid.mk hrow
  have HK := Hid.mk hk
  have HB := Hid.mk hb
  clear hrow hk hb
  go_enter Tryz.func78, Tryz.ntmps78
  go_upto_region 2 with fail
  generalize ((w.alloc (.cells #[.pointer (some ⟨ga, 0, none⟩)] 64)).alloc (.cells #[.string (bs u)] 9)).alloc (.cells #[.func (.func 116) #[] #[.pointer (some ⟨w.heap.size, 0, none⟩), .pointer (some ⟨w.heap.size + 1, 0, none⟩)]] 165) = w3 at *
  have q0 : w3.cell? ⟨w.heap.size, 0, none⟩ = some (.pointer (some ⟨ga, 0, none⟩)) := hx0.cell 0
  have q1 : w3.cell? ⟨w.heap.size + 1, 0, none⟩ = some (.string (bs u)) := hx1.cell 0
  have q5 : w3.cell? ⟨w.heap.size + 2, 0, none⟩ = some (.func (.func 116) #[] #[.pointer (some ⟨w.heap.size, 0, none⟩), .pointer (some ⟨w.heap.size + 1, 0, none⟩)]) := hx2.cell 0
  have q2 := hM3.cell hc1
  have q4 := hM3.cell hc3
  have HL0 : Hid (∀ w', Mem w' M → Kp [gm] w3 w' → w'.cell? ⟨w.heap.size, 0, none⟩ = some (.pointer (some ⟨ga, 0, none⟩)) ∧ w'.cell? ⟨w.heap.size + 1, 0, none⟩ = some (.string (bs u)) ∧ w'.cell? ⟨w.heap.size + 2, 0, none⟩ = some (.func (.func 116) #[] #[.pointer (some ⟨w.heap.size, 0, none⟩), .pointer (some ⟨w.heap.size + 1, 0, none⟩)]) ∧ w'.cell? ⟨b, 3, none⟩ = some (.slice A nd.l.length c)) := Hid.mk (fun w' hm hk =>
    ⟨(hx0.same hk (by simp; omega)).cell 0, (hx1.same hk (by simp; omega)).cell 0, (hx2.same hk (by simp; omega)).cell 0, hm.cell hc3⟩)
  have HH := Hid.mk (And.intro hM3 (And.intro hA3 hK3))
  clear hx0 hx1 hx2 hM3 hA3 hK3 hc1 hc3
  have b0 : (nd.op == 0) = false := by rw [hop]; rfl
  have b1 : (nd.op == 1) = false := by rw [hop]; rfl
  have b2 : (nd.op == 2) = false := by rw [hop]; rfl
  have b4 : (nd.op == 4) = false := by rw [hop]; rfl
  have b5 : (nd.op == 5) = true := by rw [hop]; rfl
  have HL := Hid.mk hlen
  clear hlen
  obtain ⟨bb, o, rfl, k0⟩ := HR.out 0 HL.out
  clear k0
  have HRJ : Hid (∀ j, j < nd.l.length → cellM M ⟨bb, o + j, none⟩ = some (.pointer (some ⟨bj j, 0, none⟩))) := Hid.mk (fun j hj => by
    obtain ⟨bb', o', hbb, k1⟩ := HR.out j hj
    injection hbb with hbb
    injection hbb with hb1 hb2
    subst hb1 hb2
    exact k1)
  have HKG : Hid (∀ j, j < nd.l.length → HSp 38 M ga gm V (nd.l.getD j default) (bj j) L) := Hid.mk (fun j h => by rw [List.getD_eq_getElem?_getD, List.getElem?_eq_getElem h]; exact HK.out j h)
  obtain ⟨τ, W, x0, hx0, hC, hin⟩ := class_of (fun w' => Mem w' M ∧ As w' M ga gm V ∧ Kp [gm] w3 w') (w := w3.drew) ⟨HH.out.1.drew, HH.out.2.1.kp ((Kp.refl [] _).drew) (by simp) (by simp), (Kp.refl [gm] w3).drew⟩
  have hne : Nonempty τ := ⟨x0⟩
  have HC := Hid.mk hC
  have HIN := Hid.mk hin
  have HX0 := Hid.mk hx0
  clear hC hin hx0
  have c0 : ∀ x, (W x).cell? ⟨w.heap.size, 0, none⟩ = some (.pointer (some ⟨ga, 0, none⟩)) := fun x => (HL0.out _ (HC.out x).1 (HC.out x).2.2).1
  have c1 : ∀ x, (W x).cell? ⟨w.heap.size + 1, 0, none⟩ = some (.string (bs u)) := fun x => (HL0.out _ (HC.out x).1 (HC.out x).2.2).2.1
  have c2 : ∀ x, (W x).cell? ⟨w.heap.size + 2, 0, none⟩ = some (.func (.func 116) #[] #[.pointer (some ⟨w.heap.size, 0, none⟩), .pointer (some ⟨w.heap.size + 1, 0, none⟩)]) := fun x => (HL0.out _ (HC.out x).1 (HC.out x).2.2).2.2.1
  have c3 : ∀ x, (W x).cell? ⟨b, 3, none⟩ = some (.slice (some ⟨bb, o, none⟩) nd.l.length c) := fun x => (HL0.out _ (HC.out x).1 (HC.out x).2.2).2.2.2
  have HX : Hid ((List.range nd.l.length).any (fun j => ev (nd.l.getD j default) u) = ev nd u) := Hid.mk (by
    rw [HE'.out, hop, any_nodes (f := fun x => ev x u)]
    show _ = (evs nd.l).any (fun p => p u)
    rw [any_evs])
  have HM : Hid (∀ x, Calls Tryz.prog 118 #[.slice (some ⟨bb, o, none⟩) nd.l.length c, .func (.func 116) #[] #[.pointer (some ⟨w.heap.size, 0, none⟩), .pointer (some ⟨w.heap.size + 1, 0, none⟩)]] (W x) (fun e w' => e = .returned (.bool ((List.range nd.l.length).any (fun j => ev (nd.l.getD j default) u))) ∧ ∃ x, w' = W x)) := Hid.mk (fun x => (ContainsFuncN_calls (K := 116) (n := nd.l.length) (cap := #[.pointer (some ⟨w.heap.size, 0, none⟩), .pointer (some ⟨w.heap.size + 1, 0, none⟩)]) (b := bb) (o := o) (I := (fun w' => Mem w' M ∧ As w' M ga gm V ∧ Kp [gm] w3 w')) (p := fun j => ev (nd.l.getD j default) u) (bj := bj) (fun a w => by kernel_rfl) (fun j w' hj hI => by rw [cap_two]; exact (mask1_calls (HKG.out j hj) hu (HL0.out w' hI.1 hI.2.2).1 (HL0.out w' hI.1 hI.2.2).2.1 hI.1 hI.2.1).mono (by rintro e w5 ⟨rfl, hM5, hA5, hk5⟩; exact ⟨rfl, hM5, hA5, hI.2.2.trans hk5⟩)) (fun w' hI j hj => hI.1.cell (HRJ.out j hj)) c (W x) (HC.out x) hl).mono (by rintro e w5 ⟨rfl, hI⟩; exact ⟨rfl, HIN.out _ hI⟩))
  clear hop
  go_upto_region 12 with fail
  refine wp_region_cls W x0 HX0.out (by kernel_rfl) (by kernel_rfl) ?_
  repeat (go_big_quiet_step (first | (go_at_call 118; exact HM.out _) | fail))
  refine wpQuiet_nil ?_
  rintro _ ⟨x, rfl⟩
  have HZ := Hid.mk (HC.out x)
  go_wp2_with fail
  go_ret
  exact ⟨ret_bool HX.out, HZ.out.1, HZ.out.2.1, HH.out.2.2.trans HZ.out.2.2⟩
set_option maxRecDepth 100000 in
set_option maxHeartbeats 8000000 in
theorem ask_op6 {M : Heap} {ga gm L b c : Nat} {V : Nat → Bs → Bool} {nd : Nd} {A : Option Addr} {bj : Nat → Nat} (hL : L ≤ 1000) (hb : M b = some (.cells #[.int .i64 (nd.num : Nat), .int .i64 nd.op, .string (bs nd.s), .slice A nd.l.length c] 118 (0, 0)))
    (hrow : ∀ j, (h : j < nd.l.length) → ∃ bb o, A = some ⟨bb, o, none⟩ ∧ cellM M ⟨bb, o + j, none⟩ = some (.pointer (some ⟨bj j, 0, none⟩))) (hl : nd.l.length ≤ 1000000)
    (hk : ∀ j, (h : j < nd.l.length) → HSp 38 M ga gm V nd.l[j] (bj j) L) (hop : nd.op = 6) (hlen : 0 < nd.l.length) : HSp 78 M ga gm V nd b L := by
  intro u w hu hM hA
  have hz := bs_size u
  have hzt := bs_toList u
  obtain ⟨hga, hgm⟩ := hA.lt
  have hc1 : cellM M ⟨b, 1, none⟩ = some (.int .i64 nd.op) := by simp [cellM, hb]
  have hc3 : cellM M ⟨b, 3, none⟩ = some (.slice A nd.l.length c) := by simp [cellM, hb]
  have HE' := Hid.mk (ev_eq nd)
  obtain ⟨hx0, hx1⟩ := two_boxesH hM #[.pointer (some ⟨ga, 0, none⟩)] #[.string (bs u)] 64 9
  have hM2 := (hM.alloc (.cells #[.pointer (some ⟨ga, 0, none⟩)] 64)).alloc (.cells #[.string (bs u)] 9)
  have hx2 := Box.new hM2 #[.func (.func 116) #[] #[.pointer (some ⟨w.heap.size, 0, none⟩), .pointer (some ⟨w.heap.size + 1, 0, none⟩)]] 165
  have hss : ((w.alloc (.cells #[.pointer (some ⟨ga, 0, none⟩)] 64)).alloc (.cells #[.string (bs u)] 9)).heap.size = w.heap.size + 2 := by simp
  rw [hss] at hx2
  have hx0 := hx0.alloc (.cells #[.func (.func 116) #[] #[.pointer (some ⟨w.heap.size, 0, none⟩), .pointer (some ⟨w.heap.size + 1, 0, none⟩)]] 165)
  have hx1 := hx1.alloc (.cells #[.func (.func 116) #[] #[.pointer (some ⟨w.heap.size, 0, none⟩), .pointer (some ⟨w.heap.size + 1, 0, none⟩)]] 165)
  have hM3 := hM2.alloc (.cells #[.func (.func 116) #[] #[.pointer (some ⟨w.heap.size, 0, none⟩), .pointer (some ⟨w.heap.size + 1, 0, none⟩)]] 165)
  have hA3 := ((hA.alloc (.cells #[.pointer (some ⟨ga, 0, none⟩)] 64)).alloc (.cells #[.string (bs u)] 9)).alloc (.cells #[.func (.func 116) #[] #[.pointer (some ⟨w.heap.size, 0, none⟩), .pointer (some ⟨w.heap.size + 1, 0, none⟩)]] 165)
  have hK3 := (((Kp.refl [gm] w).alloc (.cells #[.pointer (some ⟨ga, 0, none⟩)] 64)).alloc (.cells #[.string (bs u)] 9)).alloc (.cells #[.func (.func 116) #[] #[.pointer (some ⟨w.heap.size, 0, none⟩), .pointer (some ⟨w.heap.size + 1, 0, none⟩)]] 165)
  clear hM2 hss
  have HR := Hid.mk hrow
  have HK := Hid.mk hk
  have HB := Hid.mk hb
  clear hrow hk hb
  go_enter Tryz.func78, Tryz.ntmps78
  go_upto_region 2 with fail
  generalize ((w.alloc (.cells #[.pointer (some ⟨ga, 0, none⟩)] 64)).alloc (.cells #[.string (bs u)] 9)).alloc (.cells #[.func (.func 116) #[] #[.pointer (some ⟨w.heap.size, 0, none⟩), .pointer (some ⟨w.heap.size + 1, 0, none⟩)]] 165) = w3 at *
  have q0 : w3.cell? ⟨w.heap.size, 0, none⟩ = some (.pointer (some ⟨ga, 0, none⟩)) := hx0.cell 0
  have q1 : w3.cell? ⟨w.heap.size + 1, 0, none⟩ = some (.string (bs u)) := hx1.cell 0
  have q5 : w3.cell? ⟨w.heap.size + 2, 0, none⟩ = some (.func (.func 116) #[] #[.pointer (some ⟨w.heap.size, 0, none⟩), .pointer (some ⟨w.heap.size + 1, 0, none⟩)]) := hx2.cell 0
  have q2 := hM3.cell hc1
  have q4 := hM3.cell hc3
  have HL0 : Hid (∀ w', Mem w' M → Kp [gm] w3 w' → w'.cell? ⟨w.heap.size, 0, none⟩ = some (.pointer (some ⟨ga, 0, none⟩)) ∧ w'.cell? ⟨w.heap.size + 1, 0, none⟩ = some (.string (bs u)) ∧ w'.cell? ⟨w.heap.size + 2, 0, none⟩ = some (.func (.func 116) #[] #[.pointer (some ⟨w.heap.size, 0, none⟩), .pointer (some ⟨w.heap.size + 1, 0, none⟩)]) ∧ w'.cell? ⟨b, 3, none⟩ = some (.slice A nd.l.length c)) := Hid.mk (fun w' hm hk =>
    ⟨(hx0.same hk (by simp; omega)).cell 0, (hx1.same hk (by simp; omega)).cell 0, (hx2.same hk (by simp; omega)).cell 0, hm.cell hc3⟩)
  have HH := Hid.mk (And.intro hM3 (And.intro hA3 hK3))
  clear hx0 hx1 hx2 hM3 hA3 hK3 hc1 hc3
  have b0 : (nd.op == 0) = false := by rw [hop]; rfl
  have b1 : (nd.op == 1) = false := by rw [hop]; rfl
  have b2 : (nd.op == 2) = false := by rw [hop]; rfl
  have b4 : (nd.op == 4) = false := by rw [hop]; rfl
  have b5 : (nd.op == 5) = false := by rw [hop]; rfl
  have b6 : (nd.op == 6) = true := by rw [hop]; rfl
  have HL := Hid.mk hlen
  clear hlen
  obtain ⟨bb, o, rfl, k0⟩ := HR.out 0 HL.out
  clear k0
  have HRJ : Hid (∀ j, j < nd.l.length → cellM M ⟨bb, o + j, none⟩ = some (.pointer (some ⟨bj j, 0, none⟩))) := Hid.mk (fun j hj => by
    obtain ⟨bb', o', hbb, k1⟩ := HR.out j hj
    injection hbb with hbb
    injection hbb with hb1 hb2
    subst hb1 hb2
    exact k1)
  have HKG : Hid (∀ j, j < nd.l.length → HSp 38 M ga gm V (nd.l.getD j default) (bj j) L) := Hid.mk (fun j h => by rw [List.getD_eq_getElem?_getD, List.getElem?_eq_getElem h]; exact HK.out j h)
  have hk0 : Kp [gm] w3 w3 := Kp.refl _ _
  have HX : Hid ((!(List.range nd.l.length).any (fun j => !ev (nd.l.getD j default) u)) = ev nd u) := Hid.mk (by
    rw [HE'.out, hop, any_nodes (f := fun x => !ev x u)]
    show _ = (evs nd.l).all (fun p => p u)
    rw [all_evs])
  have HM : Hid (Calls Tryz.prog 118 #[.slice (some ⟨bb, o, none⟩) nd.l.length c, .func (.func 119) #[] #[.pointer (some ⟨w.heap.size + 2, 0, none⟩)]] w3 (fun e w' => e = .returned (.bool ((List.range nd.l.length).any (fun j => !ev (nd.l.getD j default) u))) ∧ Mem w' M ∧ As w' M ga gm V ∧ Kp [gm] w3 w')) := Hid.mk (ContainsFuncN_calls (K := 119) (n := nd.l.length) (cap := #[.pointer (some ⟨w.heap.size + 2, 0, none⟩)]) (b := bb) (o := o) (I := (fun w' => Mem w' M ∧ As w' M ga gm V ∧ Kp [gm] w3 w')) (p := fun j => !ev (nd.l.getD j default) u) (bj := bj) (fun a w => by kernel_rfl) (fun j w' hj hI => by rw [cap_one]; exact (mask2_calls (HKG.out j hj) hu (HL0.out w' hI.1 hI.2.2).1 (HL0.out w' hI.1 hI.2.2).2.1 (HL0.out w' hI.1 hI.2.2).2.2.1 hI.1 hI.2.1).mono (by rintro e w5 ⟨rfl, hM5, hA5, hk5⟩; exact ⟨rfl, hM5, hA5, hI.2.2.trans hk5⟩)) (fun w' hI j hj => hI.1.cell (HRJ.out j hj)) c w3 ⟨HH.out.1, HH.out.2.1, hk0⟩ hl)
  clear hop hk0
  go_wp2_with fail
  refine HM.out.mono ?_
  rintro e w5 ⟨rfl, hM5, hA5, hk5⟩
  have HZ := Hid.mk (And.intro hM5 (And.intro hA5 (HH.out.2.2.trans hk5)))
  clear hM5 hA5 hk5
  go_wp2_with fail
  go_ret
  exact ⟨ret_bool HX.out, HZ.out.1, HZ.out.2.1, HZ.out.2.2⟩
end Go.Proofs.YtgdnhlckodhhgaaGreatDoor

/-
  The asker: what it asks of a node (either, both, has).
-/
namespace Go.Proofs.YtgdnhlckodhhgaaGreatDoor
open Go.RowKit
set_option linter.unusedVariables false
set_option linter.unusedSimpArgs false
set_option maxRecDepth 100000 in
set_option maxHeartbeats 8000000 in
theorem ask_op12 {M : Heap} {ga gm L b c : Nat} {V : Nat → Bs → Bool} {nd : Nd} {A : Option Addr} {bj : Nat → Nat} (hL : L ≤ 1000) (hb : M b = some (.cells #[.int .i64 (nd.num : Nat), .int .i64 nd.op, .string (bs nd.s), .slice A nd.l.length c] 118 (0, 0)))
    (hrow : ∀ j, (h : j < nd.l.length) → ∃ bb o, A = some ⟨bb, o, none⟩ ∧ cellM M ⟨bb, o + j, none⟩ = some (.pointer (some ⟨bj j, 0, none⟩))) (hl : nd.l.length ≤ 1000000)
    (hk : ∀ j, (h : j < nd.l.length) → HSp 38 M ga gm V nd.l[j] (bj j) L) (hop : nd.op = 12) (hlen : nd.l.length = 1) : HSp 78 M ga gm V nd b L := by
  intro u w hu hM hA
  have hz := bs_size u
  have hzt := bs_toList u
  obtain ⟨hga, hgm⟩ := hA.lt
  have hc1 : cellM M ⟨b, 1, none⟩ = some (.int .i64 nd.op) := by simp [cellM, hb]
  have hc3 : cellM M ⟨b, 3, none⟩ = some (.slice A nd.l.length c) := by simp [cellM, hb]
  have HE' := Hid.mk (ev_eq nd)
  obtain ⟨hx0, hx1⟩ := two_boxesH hM #[.pointer (some ⟨ga, 0, none⟩)] #[.string (bs u)] 64 9
  have hM2 := (hM.alloc (.cells #[.pointer (some ⟨ga, 0, none⟩)] 64)).alloc (.cells #[.string (bs u)] 9)
  have hx2 := Box.new hM2 #[.func (.func 116) #[] #[.pointer (some ⟨w.heap.size, 0, none⟩), .pointer (some ⟨w.heap.size + 1, 0, none⟩)]] 165
  have hss : ((w.alloc (.cells #[.pointer (some ⟨ga, 0, none⟩)] 64)).alloc (.cells #[.string (bs u)] 9)).heap.size = w.heap.size + 2 := by simp
  rw [hss] at hx2
  have hx0 := hx0.alloc (.cells #[.func (.func 116) #[] #[.pointer (some ⟨w.heap.size, 0, none⟩), .pointer (some ⟨w.heap.size + 1, 0, none⟩)]] 165)
  have hx1 := hx1.alloc (.cells #[.func (.func 116) #[] #[.pointer (some ⟨w.heap.size, 0, none⟩), .pointer (some ⟨w.heap.size + 1, 0, none⟩)]] 165)
  have hM3 := hM2.alloc (.cells #[.func (.func 116) #[] #[.pointer (some ⟨w.heap.size, 0, none⟩), .pointer (some ⟨w.heap.size + 1, 0, none⟩)]] 165)
  have hA3 := ((hA.alloc (.cells #[.pointer (some ⟨ga, 0, none⟩)] 64)).alloc (.cells #[.string (bs u)] 9)).alloc (.cells #[.func (.func 116) #[] #[.pointer (some ⟨w.heap.size, 0, none⟩), .pointer (some ⟨w.heap.size + 1, 0, none⟩)]] 165)
  have hK3 := (((Kp.refl [gm] w).alloc (.cells #[.pointer (some ⟨ga, 0, none⟩)] 64)).alloc (.cells #[.string (bs u)] 9)).alloc (.cells #[.func (.func 116) #[] #[.pointer (some ⟨w.heap.size, 0, none⟩), .pointer (some ⟨w.heap.size + 1, 0, none⟩)]] 165)
  clear hM2 hss
  have HR := Hid.mk hrow
  have HK := Hid.mk hk
  have HB := Hid.mk hb
  clear hrow hk hb
  go_enter Tryz.func78, Tryz.ntmps78
  go_upto_region 2 with fail
  generalize ((w.alloc (.cells #[.pointer (some ⟨ga, 0, none⟩)] 64)).alloc (.cells #[.string (bs u)] 9)).alloc (.cells #[.func (.func 116) #[] #[.pointer (some ⟨w.heap.size, 0, none⟩), .pointer (some ⟨w.heap.size + 1, 0, none⟩)]] 165) = w3 at *
  have q0 : w3.cell? ⟨w.heap.size, 0, none⟩ = some (.pointer (some ⟨ga, 0, none⟩)) := hx0.cell 0
  have q1 : w3.cell? ⟨w.heap.size + 1, 0, none⟩ = some (.string (bs u)) := hx1.cell 0
  have q5 : w3.cell? ⟨w.heap.size + 2, 0, none⟩ = some (.func (.func 116) #[] #[.pointer (some ⟨w.heap.size, 0, none⟩), .pointer (some ⟨w.heap.size + 1, 0, none⟩)]) := hx2.cell 0
  have q2 := hM3.cell hc1
  have q4 := hM3.cell hc3
  have HL0 : Hid (∀ w', Mem w' M → Kp [gm] w3 w' → w'.cell? ⟨w.heap.size, 0, none⟩ = some (.pointer (some ⟨ga, 0, none⟩)) ∧ w'.cell? ⟨w.heap.size + 1, 0, none⟩ = some (.string (bs u)) ∧ w'.cell? ⟨w.heap.size + 2, 0, none⟩ = some (.func (.func 116) #[] #[.pointer (some ⟨w.heap.size, 0, none⟩), .pointer (some ⟨w.heap.size + 1, 0, none⟩)]) ∧ w'.cell? ⟨b, 3, none⟩ = some (.slice A nd.l.length c)) := Hid.mk (fun w' hm hk =>
    ⟨(hx0.same hk (by simp; omega)).cell 0, (hx1.same hk (by simp; omega)).cell 0, (hx2.same hk (by simp; omega)).cell 0, hm.cell hc3⟩)
  have HH := Hid.mk (And.intro hM3 (And.intro hA3 hK3))
  clear hx0 hx1 hx2 hM3 hA3 hK3 hc1 hc3
  have b0 : (nd.op == 0) = false := by rw [hop]; rfl
  have b1 : (nd.op == 1) = false := by rw [hop]; rfl
  have b2 : (nd.op == 2) = false := by rw [hop]; rfl
  have b4 : (nd.op == 4) = false := by rw [hop]; rfl
  have b5 : (nd.op == 5) = false := by rw [hop]; rfl
  have b6 : (nd.op == 6) = false := by rw [hop]; rfl
  have b7 : (nd.op == 7) = false := by rw [hop]; rfl
  have b8 : (nd.op == 8) = false := by rw [hop]; rfl
  have b9 : (nd.op == 9) = false := by rw [hop]; rfl
  have b10 : (nd.op == 10) = false := by rw [hop]; rfl
  have b11 : (nd.op == 11) = false := by rw [hop]; rfl
  have b12 : (nd.op == 12) = true := by rw [hop]; rfl
  have HL := Hid.mk hlen
  clear hlen
  obtain ⟨bb, o, rfl, k0⟩ := HR.out 0 (by have := HL.out; omega)
  rw [Nat.add_zero] at k0
  have hl0 : (0 : Int) < (nd.l.length : Int) := by have := HL.out; omega
  have HX : Hid (hasB (ev (nd.l[0]'(by have := HL.out; omega))) u = ev nd u) := Hid.mk (by
    rw [HE'.out, hop]
    show _ = hasB (nth (evs nd.l) 0) u
    rw [nth_ev (by have := HL.out; omega)])
  have HSB := Hid.mk (HK.out 0 (by have := HL.out; omega))
  have HEX := Hid.mk (fun j => show (bs u).extract j u.length = bs (u.drop j) by rw [bs_extract, List.take_length])
  generalize (nd.l[0]'(by have := HL.out; omega)) = n0 at *
  have HK0 : Hid (Kp [gm] w3 w3) := Hid.mk (Kp.refl _ _)
  clear hop
  go_wp2_with fail
  go_loopg [148] (u.length + 1) (fun kk v wr => ∃ j : Nat, j ≤ u.length + 1 ∧ kk = u.length + 1 - j ∧ v = .int .i64 (j : Nat) ∧ Hid ((List.range j).any (fun i => beginsB (ev n0) (u.drop i)) = false) ∧ Hid (Mem wr M ∧ As wr M ga gm V ∧ Kp [gm] w3 wr))
  case atStart => exact ⟨0, Nat.zero_le _, by simp, rfl, Hid.mk rfl, Hid.mk ⟨HH.out.1, HH.out.2.1, HK0.out⟩⟩
  case round =>
    obtain ⟨j, hj, hk, rfl, HJ, HW⟩ := hrel
    have HKK := Hid.mk hk
    clear hk
    have h2 : wr.cell? ⟨b, 3, none⟩ = some (.slice (some ⟨bb, o, none⟩) nd.l.length c) := (HL0.out _ HW.out.1 HW.out.2.2).2.2.2
    by_cases hlt : j ≤ u.length
    · have hext := HEX.out j
      have hlt' : (j : Int) < (u.length : Int) + 1 := by omega
      have hpl : (u.drop j).length ≤ L := by rw [List.length_drop]; omega
      have hkr : Hid (Kp [gm] w3 wr) := Hid.mk HW.out.2.2
      obtain ⟨τ, W, x0, hx0, hC, hin⟩ := class_of (fun w' => Mem w' M ∧ As w' M ga gm V ∧ Kp [gm] w3 w') (w := wr.drew) ⟨HW.out.1.drew, HW.out.2.1.kp ((Kp.refl [] _).drew) (by simp) (by simp), HW.out.2.2.drew⟩
      have hne : Nonempty τ := ⟨x0⟩
      have HC := Hid.mk hC
      have HIN := Hid.mk hin
      have HX0 := Hid.mk hx0
      clear hC hin hx0
      have c0 : ∀ x, (W x).cell? ⟨w.heap.size, 0, none⟩ = some (.pointer (some ⟨ga, 0, none⟩)) := fun x => (HL0.out _ (HC.out x).1 (HC.out x).2.2).1
      have c1 : ∀ x, (W x).cell? ⟨w.heap.size + 1, 0, none⟩ = some (.string (bs u)) := fun x => (HL0.out _ (HC.out x).1 (HC.out x).2.2).2.1
      have c2 : ∀ x, (W x).cell? ⟨w.heap.size + 2, 0, none⟩ = some (.func (.func 116) #[] #[.pointer (some ⟨w.heap.size, 0, none⟩), .pointer (some ⟨w.heap.size + 1, 0, none⟩)]) := fun x => (HL0.out _ (HC.out x).1 (HC.out x).2.2).2.2.1
      have c3 : ∀ x, (W x).cell? ⟨b, 3, none⟩ = some (.slice (some ⟨bb, o, none⟩) nd.l.length c) := fun x => (HL0.out _ (HC.out x).1 (HC.out x).2.2).2.2.2
      have d0 : ∀ x, (W x).cell? ⟨bb, o, none⟩ = some (.pointer (some ⟨bj 0, 0, none⟩)) := fun x => (HC.out x).1.cell k0
      have HB := Hid.mk (fun x => (Begins_calls hL HSB.out (u.drop j) (W x) hpl (HC.out x).1 (HC.out x).2.1).mono (R' := fun e w' => e = .returned (.bool (beginsB (ev n0) (u.drop j))) ∧ ∃ x, w' = W x) (by rintro e w5 ⟨rfl, hM5, hA5, hk5⟩; exact ⟨rfl, HIN.out _ ⟨hM5, hA5, (HC.out x).2.2.trans hk5⟩⟩))
      have HR := Hid.mk (any_range (f := fun i => beginsB (ev n0) (u.drop i)) j)
      clear hpl
      cases hv : beginsB (ev n0) (u.drop j) with
      | true =>
        have HT : Hid (true = ev nd u) := Hid.mk (by
          rw [← HX.out]
          unfold hasB
          rw [eq_comm, List.any_eq_true]
          exact ⟨j, by simp; omega, hv⟩)
        rw [hv] at HB
        clear hv
        go_upto_region 29 with fail
        refine wp_region_cls W x0 HX0.out (by kernel_rfl) (by kernel_rfl) ?_
        repeat (go_big_quiet_step (first | (go_at_call 121; exact HB.out _) | fail))
        refine wpQuiet_nil ?_
        rintro _ ⟨x, rfl⟩
        have HZ := Hid.mk (HC.out x)
        go_wp2_with fail
        go_ret
        exact ⟨ret_bool HT.out, HZ.out.1, HZ.out.2.1, HH.out.2.2.trans HZ.out.2.2⟩
      | false =>
        have HT : Hid ((List.range (j + 1)).any (fun i => beginsB (ev n0) (u.drop i)) = false) := Hid.mk (by rw [HR.out, HJ.out, hv]; rfl)
        rw [hv] at HB
        clear hv
        go_upto_region 29 with fail
        refine wp_region_cls W x0 HX0.out (by kernel_rfl) (by kernel_rfl) ?_
        repeat (go_big_quiet_step (first | (go_at_call 121; exact HB.out _) | fail))
        refine wpQuiet_nil ?_
        rintro _ ⟨x, rfl⟩
        have HZ := Hid.mk (HC.out x)
        go_wp2_with fail
        go_roundg (u.length + 1 - (j + 1))
        case measure => have := HKK.out; omega
        case rel => exact ⟨j + 1, by omega, rfl, by go_num, HT, HZ⟩
    · obtain rfl : j = u.length + 1 := by omega
      have hlt' : ¬ (((u.length + 1 : Nat) : Int) < (u.length : Int) + 1) := by omega
      have HT : Hid (false = ev nd u) := Hid.mk (by rw [← HX.out]; exact HJ.out.symm)
      go_wp2_with fail
      go_ret
      exact ⟨ret_bool HT.out, HW.out.1, HW.out.2.1, HH.out.2.2.trans HW.out.2.2⟩
end Go.Proofs.YtgdnhlckodhhgaaGreatDoor

/-
  The asker: only (within).
-/
namespace Go.Proofs.YtgdnhlckodhhgaaGreatDoor
open Go.RowKit
set_option linter.unusedVariables false
set_option linter.unusedSimpArgs false
def onlyP (p q r : Bs → Bool) (u : Bs) (i k : Nat) : Bool := p (part u i k) && !(endsB q (u.take i) && beginsB r (u.drop k))
theorem only_no {p q r : Bs → Bool} {u : Bs} {i k : Nat} (h1 : i ≤ k) (h2 : k ≤ u.length) (h : onlyP p q r u i k = true) : onlyB p q r u = false := by
  unfold onlyB
  rw [List.all_eq_false]
  refine ⟨i, by rw [List.mem_range]; omega, ?_⟩
  rw [Bool.not_eq_true, List.all_eq_false]
  refine ⟨k - i, by rw [List.mem_range]; omega, ?_⟩
  rw [show i + (k - i) = k by omega]
  unfold onlyP at h
  rw [h]; simp
theorem only_yes {p q r : Bs → Bool} {u : Bs} (h : ∀ i k, i ≤ k → k ≤ u.length → onlyP p q r u i k = false) : onlyB p q r u = true := by
  unfold onlyB
  rw [List.all_eq_true]
  intro i hi
  rw [List.all_eq_true]
  intro j hj
  rw [List.mem_range] at hi hj
  have := h i (i + j) (by omega) (by omega)
  unfold onlyP at this
  rw [this]; rfl
set_option maxRecDepth 100000 in
set_option maxHeartbeats 4000000 in
theorem monly_calls {M : Heap} {ga gm b bb o c L a0 a1 a2 : Nat} (hL : L ≤ 1000) {V : Nat → Bs → Bool} {n0 n1 n2 : Nd} (hb : cellM M ⟨b, 3, none⟩ = some (.slice (some ⟨bb, o, none⟩) 3 c)) (k0 : cellM M ⟨bb, o, none⟩ = some (.pointer (some ⟨a0, 0, none⟩))) (k1 : cellM M ⟨bb, o + 1, none⟩ = some (.pointer (some ⟨a1, 0, none⟩))) (k2 : cellM M ⟨bb, o + 2, none⟩ = some (.pointer (some ⟨a2, 0, none⟩)))
    (hx0 : HSp 38 M ga gm V n0 a0 L) (hx1 : HSp 38 M ga gm V n1 a1 L) (hx2 : HSp 38 M ga gm V n2 a2 L) (u : Bs) (w : World) (hu : u.length ≤ L) (hM : Mem w M) (hA : As w M ga gm V) :
    Calls Tryz.prog 122 #[.pointer (some ⟨ga, 0, none⟩), .pointer (some ⟨b, 0, none⟩), .string (bs u)] w (HE M ga gm V w (onlyB (ev n0) (ev n1) (ev n2) u)) := by
  have hz := bs_size u
  have HE1 := Hid.mk (fun i k => show (bs u).extract i k = bs (part u i k) by rw [bs_extract]; rfl)
  have HE2 := Hid.mk (fun i => show (bs u).extract 0 i = bs (u.take i) by rw [bs_extract, List.drop_zero])
  have HE3 := Hid.mk (fun k => show (bs u).extract k u.length = bs (u.drop k) by rw [bs_extract, List.take_length])
  have HXX := Hid.mk (And.intro hx0 (And.intro hx1 hx2))
  have HB := Hid.mk (And.intro hb (And.intro k0 (And.intro k1 k2)))
  clear hx0 hx1 hx2 hb k0 k1 k2
  go_enter Tryz.func122, Tryz.ntmps122
  go_wp2_with fail
  go_loopg [12] (u.length + 1) (fun kk v wr => ∃ i : Nat, i ≤ u.length + 1 ∧ kk = u.length + 1 - i ∧ v = .int .i64 (i : Nat) ∧ Hid (∀ i' k, i' < i → i' ≤ k → k ≤ u.length → onlyP (ev n0) (ev n1) (ev n2) u i' k = false) ∧ Hid (Mem wr M ∧ As wr M ga gm V ∧ Kp [gm] w wr))
  case atStart => exact ⟨0, Nat.zero_le _, by simp, rfl, Hid.mk (fun i' k h => absurd h (Nat.not_lt_zero _)), Hid.mk ⟨hM, hA, Kp.refl _ _⟩⟩
  case round =>
    obtain ⟨i, hi, hk, rfl, HI, HW⟩ := hrel
    have HKI := Hid.mk hk
    clear hk hM hA
    by_cases hlt : i ≤ u.length
    · have hlt' : (i : Int) < (u.length : Int) + 1 := by omega
      go_wp2_with fail
      go_loopg [8] (u.length + 1 - i) (fun kk v wy => ∃ k : Nat, i ≤ k ∧ k ≤ u.length + 1 ∧ kk = u.length + 1 - k ∧ v = .int .i64 (k : Nat) ∧ Hid (∀ k', i ≤ k' → k' < k → onlyP (ev n0) (ev n1) (ev n2) u i k' = false) ∧ Hid (Mem wy M ∧ As wy M ga gm V ∧ Kp [gm] w wy))
      case atStart => exact ⟨i, Nat.le_refl _, by omega, rfl, rfl, Hid.mk (fun k' h1 h2 => absurd h1 (by omega)), HW⟩
      case round =>
        obtain ⟨k, hik, hk2, hkk, rfl, HJ, HY⟩ := hrel
        have HKK := Hid.mk hkk
        clear hkk
        by_cases hkn : k ≤ u.length
        · have hkn' : (k : Int) ≤ (u.length : Int) := by omega
          have hik' : (i : Int) ≤ (k : Int) := by omega
          have e1 := HE1.out i k
          have e2 := HE2.out i
          have e3 := HE3.out k
          have h30 : (0 : Int) < 3 := by decide
          have hp1 : (part u i k).length ≤ L := by unfold part; rw [List.length_drop, List.length_take]; omega
          have hp2 : (u.take i).length ≤ L := by rw [List.length_take]; omega
          have hp3 : (u.drop k).length ≤ L := by rw [List.length_drop]; omega
          obtain ⟨τ, W, x0, hx0, hC, hin⟩ := class_of (fun w' => Mem w' M ∧ As w' M ga gm V ∧ Kp [gm] w w') (w := wr.drew) ⟨HY.out.1.drew, HY.out.2.1.kp ((Kp.refl [] _).drew) (by simp) (by simp), HY.out.2.2.drew⟩
          have hne : Nonempty τ := ⟨x0⟩
          have HC := Hid.mk hC
          have HIN := Hid.mk hin
          have HX0 := Hid.mk hx0
          clear hC hin hx0
          have c3 : ∀ x, (W x).cell? ⟨b, 3, none⟩ = some (.slice (some ⟨bb, o, none⟩) 3 c) := fun x => (HC.out x).1.cell HB.out.1
          have d0 : ∀ x, (W x).cell? ⟨bb, o, none⟩ = some (.pointer (some ⟨a0, 0, none⟩)) := fun x => (HC.out x).1.cell HB.out.2.1
          have d1 : ∀ x, (W x).cell? ⟨bb, o + 1, none⟩ = some (.pointer (some ⟨a1, 0, none⟩)) := fun x => (HC.out x).1.cell HB.out.2.2.1
          have d2 : ∀ x, (W x).cell? ⟨bb, o + 2, none⟩ = some (.pointer (some ⟨a2, 0, none⟩)) := fun x => (HC.out x).1.cell HB.out.2.2.2
          have HP := Hid.mk (fun x => (HXX.out.1 (part u i k) (W x) hp1 (HC.out x).1 (HC.out x).2.1).mono (R' := fun e w' => e = .returned (.bool (ev n0 (part u i k))) ∧ ∃ x, w' = W x) (by rintro e w5 ⟨rfl, hM5, hA5, hk5⟩; exact ⟨rfl, HIN.out _ ⟨hM5, hA5, (HC.out x).2.2.trans hk5⟩⟩))
          have HQ := Hid.mk (fun x => (Ends_calls hL HXX.out.2.1 (u.take i) (W x) hp2 (HC.out x).1 (HC.out x).2.1).mono (R' := fun e w' => e = .returned (.bool (endsB (ev n1) (u.take i))) ∧ ∃ x, w' = W x) (by rintro e w5 ⟨rfl, hM5, hA5, hk5⟩; exact ⟨rfl, HIN.out _ ⟨hM5, hA5, (HC.out x).2.2.trans hk5⟩⟩))
          have HRB := Hid.mk (fun x => (Begins_calls hL HXX.out.2.2 (u.drop k) (W x) hp3 (HC.out x).1 (HC.out x).2.1).mono (R' := fun e w' => e = .returned (.bool (beginsB (ev n2) (u.drop k))) ∧ ∃ x, w' = W x) (by rintro e w5 ⟨rfl, hM5, hA5, hk5⟩; exact ⟨rfl, HIN.out _ ⟨hM5, hA5, (HC.out x).2.2.trans hk5⟩⟩))
          have HNO := Hid.mk (only_no (p := ev n0) (q := ev n1) (r := ev n2) hik hkn)
          have HPD : Hid (onlyP (ev n0) (ev n1) (ev n2) u i k = (ev n0 (part u i k) && !(endsB (ev n1) (u.take i) && beginsB (ev n2) (u.drop k)))) := Hid.mk rfl
          clear hp1 hp2 hp3
          cases hv0 : ev n0 (part u i k) with
          | false =>
            rw [hv0] at HP HPD
            clear hv0
            go_upto_region 7 with fail
            refine wp_region_cls W x0 HX0.out (by kernel_rfl) (by kernel_rfl) ?_
            repeat (go_big_quiet_step (first | (go_at_call 38; exact HP.out _) | fail))
            refine wpQuiet_nil ?_
            rintro _ ⟨x, rfl⟩
            have HZ := Hid.mk (HC.out x)
            clear HC HIN HX0 HP HQ HRB c3 d0 d1 d2 hne
            go_wp2_with fail
            go_roundg (u.length + 1 - (k + 1))
            case measure => have := HKK.out; omega
            case rel => exact ⟨k + 1, by omega, by omega, rfl, by go_num, Hid.mk (fun k' h1 h2 => by
                by_cases h : k' = k
                · rw [h, HPD.out]; rfl
                · exact HJ.out k' h1 (by omega)), HZ⟩
          | true =>
            rw [hv0] at HP HPD
            clear hv0
            cases hv1 : endsB (ev n1) (u.take i) with
            | false =>
              rw [hv1] at HQ HPD
              clear hv1
              go_upto_region 7 with fail
              refine wp_region_cls W x0 HX0.out (by kernel_rfl) (by kernel_rfl) ?_
              repeat (go_big_quiet_step (first | (go_at_call 38; exact HP.out _) | (go_at_call 175; exact HQ.out _) | fail))
              refine wpQuiet_nil ?_
              rintro _ ⟨x, rfl⟩
              have HZ := Hid.mk (HC.out x)
              clear HC HIN HX0 HP HQ HRB c3 d0 d1 d2 hne
              go_wp2_with fail
              go_ret
              exact ⟨ret_bool (HNO.out (by rw [HPD.out]; rfl)).symm, HZ.out.1, HZ.out.2.1, HZ.out.2.2⟩
            | true =>
              rw [hv1] at HQ HPD
              clear hv1
              cases hv2 : beginsB (ev n2) (u.drop k) with
              | false =>
                rw [hv2] at HRB HPD
                clear hv2
                go_upto_region 7 with fail
                refine wp_region_cls W x0 HX0.out (by kernel_rfl) (by kernel_rfl) ?_
                repeat (go_big_quiet_step (first | (go_at_call 38; exact HP.out _) | (go_at_call 175; exact HQ.out _) | (go_at_call 121; exact HRB.out _) | fail))
                refine wpQuiet_nil ?_
                rintro _ ⟨x, rfl⟩
                have HZ := Hid.mk (HC.out x)
                clear HC HIN HX0 HP HQ HRB c3 d0 d1 d2 hne
                go_wp2_with fail
                go_ret
                exact ⟨ret_bool (HNO.out (by rw [HPD.out]; rfl)).symm, HZ.out.1, HZ.out.2.1, HZ.out.2.2⟩
              | true =>
                rw [hv2] at HRB HPD
                clear hv2
                go_upto_region 7 with fail
                refine wp_region_cls W x0 HX0.out (by kernel_rfl) (by kernel_rfl) ?_
                repeat (go_big_quiet_step (first | (go_at_call 38; exact HP.out _) | (go_at_call 175; exact HQ.out _) | (go_at_call 121; exact HRB.out _) | fail))
                refine wpQuiet_nil ?_
                rintro _ ⟨x, rfl⟩
                have HZ := Hid.mk (HC.out x)
                clear HC HIN HX0 HP HQ HRB c3 d0 d1 d2 hne
                go_wp2_with fail
                go_roundg (u.length + 1 - (k + 1))
                case measure => have := HKK.out; omega
                case rel => exact ⟨k + 1, by omega, by omega, rfl, by go_num, Hid.mk (fun k' h1 h2 => by
                    by_cases h : k' = k
                    · rw [h, HPD.out]; rfl
                    · exact HJ.out k' h1 (by omega)), HZ⟩
        · obtain rfl : k = u.length + 1 := by omega
          have hkn' : ¬ (((u.length + 1 : Nat) : Int) ≤ (u.length : Int)) := by omega
          go_wp2_with fail
          go_roundg (u.length + 1 - (i + 1))
          case measure => have := HKI.out; omega
          case rel => exact ⟨i + 1, by omega, rfl, by go_num, Hid.mk (fun i' k h1 h2 h3 => by
            by_cases h : i' = i
            · rw [h]; exact HJ.out k (by omega) (by omega)
            · exact HI.out i' k (by omega) h2 h3), HY⟩
    · obtain rfl : i = u.length + 1 := by omega
      have hlt' : ¬ (((u.length + 1 : Nat) : Int) < (u.length : Int) + 1) := by omega
      have HT : Hid (onlyB (ev n0) (ev n1) (ev n2) u = true) := Hid.mk (only_yes (fun i k h1 h2 => HI.out i k (by omega) h1 h2))
      go_wp2_with fail
      go_ret
      exact ⟨ret_bool HT.out.symm, HW.out⟩
end Go.Proofs.YtgdnhlckodhhgaaGreatDoor
