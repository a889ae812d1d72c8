/-
  The asker: what it asks of a node (or nothing, but, plus).
-/
import Derived.Test.YtgdnhlckodhhgaaGreatDoorJVA
namespace Go.Proofs.YtgdnhlckodhhgaaGreatDoor
open Go.RowKit
set_option linter.unusedVariables false
set_option linter.unusedSimpArgs false
set_option maxRecDepth 100000 in
set_option maxHeartbeats 8000000 in
theorem ask_op10 {M : Heap} {ga gm L b c : Nat} {V : Nat → Bs → Bool} {nd : Nd} {A : Option Addr} {bj : Nat → Nat} (hL : L ≤ 1000) (hb : M b = some (.cells #[.int .i64 (nd.num : Nat), .int .i64 nd.op, .string (bs nd.s), .slice A nd.l.length c] 118 (0, 0)))
    (hrow : ∀ j, (h : j < nd.l.length) → ∃ bb o, A = some ⟨bb, o, none⟩ ∧ cellM M ⟨bb, o + j, none⟩ = some (.pointer (some ⟨bj j, 0, none⟩))) (hl : nd.l.length ≤ 1000000)
    (hk : ∀ j, (h : j < nd.l.length) → HSp 38 M ga gm V nd.l[j] (bj j) L) (hop : nd.op = 10) (hlen : nd.l.length = 1) : HSp 78 M ga gm V nd b L := by
  intro u w hu hM hA
  have hz := bs_size u
  have hzt := bs_toList u
  obtain ⟨hga, hgm⟩ := hA.lt
  have hc1 : cellM M ⟨b, 1, none⟩ = some (.int .i64 nd.op) := by simp [cellM, hb]
  have hc3 : cellM M ⟨b, 3, none⟩ = some (.slice A nd.l.length c) := by simp [cellM, hb]
  have HE' := Hid.mk (ev_eq nd)
  obtain ⟨hx0, hx1⟩ := two_boxesH hM #[.pointer (some ⟨ga, 0, none⟩)] #[.string (bs u)] 64 9
  have hM2 := (hM.alloc (.cells #[.pointer (some ⟨ga, 0, none⟩)] 64)).alloc (.cells #[.string (bs u)] 9)
  have hx2 := Box.new hM2 #[.func (.func 116) #[] #[.pointer (some ⟨w.heap.size, 0, none⟩), .pointer (some ⟨w.heap.size + 1, 0, none⟩)]] 165
  have hss : ((w.alloc (.cells #[.pointer (some ⟨ga, 0, none⟩)] 64)).alloc (.cells #[.string (bs u)] 9)).heap.size = w.heap.size + 2 := by simp
  rw [hss] at hx2
  have hx0 := hx0.alloc (.cells #[.func (.func 116) #[] #[.pointer (some ⟨w.heap.size, 0, none⟩), .pointer (some ⟨w.heap.size + 1, 0, none⟩)]] 165)
  have hx1 := hx1.alloc (.cells #[.func (.func 116) #[] #[.pointer (some ⟨w.heap.size, 0, none⟩), .pointer (some ⟨w.heap.size + 1, 0, none⟩)]] 165)
  have hM3 := hM2.alloc (.cells #[.func (.func 116) #[] #[.pointer (some ⟨w.heap.size, 0, none⟩), .pointer (some ⟨w.heap.size + 1, 0, none⟩)]] 165)
  have hA3 := ((hA.alloc (.cells #[.pointer (some ⟨ga, 0, none⟩)] 64)).alloc (.cells #[.string (bs u)] 9)).alloc (.cells #[.func (.func 116) #[] #[.pointer (some ⟨w.heap.size, 0, none⟩), .pointer (some ⟨w.heap.size + 1, 0, none⟩)]] 165)
  have hK3 := (((Kp.refl [gm] w).alloc (.cells #[.pointer (some ⟨ga, 0, none⟩)] 64)).alloc (.cells #[.string (bs u)] 9)).alloc (.cells #[.func (.func 116) #[] #[.pointer (some ⟨w.heap.size, 0, none⟩), .pointer (some ⟨w.heap.size + 1, 0, none⟩)]] 165)
  clear hM2 hss
  have HR := Hid.mk hrow
  have HK := Hid.mk hk
  have HB := Hid.mk hb
  clear hrow hk hb
  go_enter Tryz.func78, Tryz.ntmps78
  go_upto_region 2 with fail
  generalize ((w.alloc (.cells #[.pointer (some ⟨ga, 0, none⟩)] 64)).alloc (.cells #[.string (bs u)] 9)).alloc (.cells #[.func (.func 116) #[] #[.pointer (some ⟨w.heap.size, 0, none⟩), .pointer (some ⟨w.heap.size + 1, 0, none⟩)]] 165) = w3 at *
  have q0 : w3.cell? ⟨w.heap.size, 0, none⟩ = some (.pointer (some ⟨ga, 0, none⟩)) := hx0.cell 0
  have q1 : w3.cell? ⟨w.heap.size + 1, 0, none⟩ = some (.string (bs u)) := hx1.cell 0
  have q5 : w3.cell? ⟨w.heap.size + 2, 0, none⟩ = some (.func (.func 116) #[] #[.pointer (some ⟨w.heap.size, 0, none⟩), .pointer (some ⟨w.heap.size + 1, 0, none⟩)]) := hx2.cell 0
  have q2 := hM3.cell hc1
  have q4 := hM3.cell hc3
  have HL0 : Hid (∀ w', Mem w' M → Kp [gm] w3 w' → w'.cell? ⟨w.heap.size, 0, none⟩ = some (.pointer (some ⟨ga, 0, none⟩)) ∧ w'.cell? ⟨w.heap.size + 1, 0, none⟩ = some (.string (bs u)) ∧ w'.cell? ⟨w.heap.size + 2, 0, none⟩ = some (.func (.func 116) #[] #[.pointer (some ⟨w.heap.size, 0, none⟩), .pointer (some ⟨w.heap.size + 1, 0, none⟩)]) ∧ w'.cell? ⟨b, 3, none⟩ = some (.slice A nd.l.length c)) := Hid.mk (fun w' hm hk =>
    ⟨(hx0.same hk (by simp; omega)).cell 0, (hx1.same hk (by simp; omega)).cell 0, (hx2.same hk (by simp; omega)).cell 0, hm.cell hc3⟩)
  have HH := Hid.mk (And.intro hM3 (And.intro hA3 hK3))
  clear hx0 hx1 hx2 hM3 hA3 hK3 hc1 hc3
  have b0 : (nd.op == 0) = false := by rw [hop]; rfl
  have b1 : (nd.op == 1) = false := by rw [hop]; rfl
  have b2 : (nd.op == 2) = false := by rw [hop]; rfl
  have b4 : (nd.op == 4) = false := by rw [hop]; rfl
  have b5 : (nd.op == 5) = false := by rw [hop]; rfl
  have b6 : (nd.op == 6) = false := by rw [hop]; rfl
  have b7 : (nd.op == 7) = false := by rw [hop]; rfl
  have b8 : (nd.op == 8) = false := by rw [hop]; rfl
  have b9 : (nd.op == 9) = false := by rw [hop]; rfl
  have b10 : (nd.op == 10) = true := by rw [hop]; rfl
  have HL := Hid.mk hlen
  clear hlen
  obtain ⟨bb, o, rfl, k0⟩ := HR.out 0 (by have := HL.out; omega)
  rw [Nat.add_zero] at k0
  have hl0 : (0 : Int) < (nd.l.length : Int) := by have := HL.out; omega
  obtain ⟨τ, W, x0, hx0, hC, hin⟩ := class_of (fun w' => Mem w' M ∧ As w' M ga gm V ∧ Kp [gm] w3 w') (w := w3.drew) ⟨HH.out.1.drew, HH.out.2.1.kp ((Kp.refl [] _).drew) (by simp) (by simp), (Kp.refl [gm] w3).drew⟩
  have hne : Nonempty τ := ⟨x0⟩
  have HC := Hid.mk hC
  have HIN := Hid.mk hin
  have HX0 := Hid.mk hx0
  clear hC hin hx0
  have c0 : ∀ x, (W x).cell? ⟨w.heap.size, 0, none⟩ = some (.pointer (some ⟨ga, 0, none⟩)) := fun x => (HL0.out _ (HC.out x).1 (HC.out x).2.2).1
  have c1 : ∀ x, (W x).cell? ⟨w.heap.size + 1, 0, none⟩ = some (.string (bs u)) := fun x => (HL0.out _ (HC.out x).1 (HC.out x).2.2).2.1
  have c2 : ∀ x, (W x).cell? ⟨w.heap.size + 2, 0, none⟩ = some (.func (.func 116) #[] #[.pointer (some ⟨w.heap.size, 0, none⟩), .pointer (some ⟨w.heap.size + 1, 0, none⟩)]) := fun x => (HL0.out _ (HC.out x).1 (HC.out x).2.2).2.2.1
  have c3 : ∀ x, (W x).cell? ⟨b, 3, none⟩ = some (.slice (some ⟨bb, o, none⟩) nd.l.length c) := fun x => (HL0.out _ (HC.out x).1 (HC.out x).2.2).2.2.2
  have d0 : ∀ x, (W x).cell? ⟨bb, o, none⟩ = some (.pointer (some ⟨bj 0, 0, none⟩)) := fun x => (HC.out x).1.cell k0
  have hcf0 : ∀ w', (callFunc 116 #[.pointer (some ⟨bj 0, 0, none⟩), .pointer (some ⟨w.heap.size, 0, none⟩), .pointer (some ⟨w.heap.size + 1, 0, none⟩)]).run Tryz.prog w' = .ok (.enter 116 #[.pointer (some ⟨bj 0, 0, none⟩), .pointer (some ⟨w.heap.size, 0, none⟩), .pointer (some ⟨w.heap.size + 1, 0, none⟩)]) w' := fun w' => by kernel_rfl
  have HM0 : Hid (∀ x, Calls Tryz.prog 116 #[.pointer (some ⟨bj 0, 0, none⟩), .pointer (some ⟨w.heap.size, 0, none⟩), .pointer (some ⟨w.heap.size + 1, 0, none⟩)] (W x) (fun e w' => e = .returned (.bool (ev (nd.l[0]'(by have := HL.out; omega)) u)) ∧ ∃ x, w' = W x)) := Hid.mk (fun x => (mask1_calls (HK.out 0 (by have := HL.out; omega)) hu (c0 x) (c1 x) (HC.out x).1 (HC.out x).2.1).mono (by rintro e w5 ⟨rfl, hM5, hA5, hk5⟩; exact ⟨rfl, HIN.out _ ⟨hM5, hA5, (HC.out x).2.2.trans hk5⟩⟩))
  have HE0 : Hid (nth (evs nd.l) 0 u = ev (nd.l[0]'(by have := HL.out; omega)) u) := Hid.mk (by rw [nth_ev (by have := HL.out; omega)])
  have HX : Hid (((u == []) || ev (nd.l[0]'(by have := HL.out; omega)) u) = ev nd u) := Hid.mk (by
    rw [HE'.out, hop]
    show _ = ((u == []) || nth (evs nd.l) 0 u)
    rw [HE0.out])
  clear hop HE0
  by_cases hu0 : u = []
  · have h1 : (u == []) = true := by rw [hu0]; rfl
    have h2 : u.isEmpty = true := by rw [hu0]; rfl
    rw [h1, Bool.true_or] at HX
    clear hu0
    go_upto_region 22 with fail
    refine wp_region_cls W x0 HX0.out (by kernel_rfl) (by kernel_rfl) ?_
    repeat (go_big_quiet_step (first | fail))
    refine wpQuiet_nil ?_
    rintro _ ⟨x, rfl⟩
    have HZ := Hid.mk (HC.out x)
    go_wp2_with fail
    go_ret
    exact ⟨ret_bool HX.out, HZ.out.1, HZ.out.2.1, HH.out.2.2.trans HZ.out.2.2⟩
  · have h1 : (u == []) = false := by simpa using hu0
    have h2 : u.isEmpty = false := by simpa using hu0
    rw [h1, Bool.false_or] at HX
    clear hu0
    go_upto_region 22 with fail
    refine wp_region_cls W x0 HX0.out (by kernel_rfl) (by kernel_rfl) ?_
    repeat (go_big_quiet_step (first | (go_at_call 116; exact HM0.out _) | fail))
    refine wpQuiet_nil ?_
    rintro _ ⟨x, rfl⟩
    have HZ := Hid.mk (HC.out x)
    go_wp2_with fail
    go_ret
    exact ⟨ret_bool HX.out, HZ.out.1, HZ.out.2.1, HH.out.2.2.trans HZ.out.2.2⟩
set_option maxRecDepth 100000 in
set_option maxHeartbeats 8000000 in
theorem ask_op7 {M : Heap} {ga gm L b c : Nat} {V : Nat → Bs → Bool} {nd : Nd} {A : Option Addr} {bj : Nat → Nat} (hL : L ≤ 1000) (hb : M b = some (.cells #[.int .i64 (nd.num : Nat), .int .i64 nd.op, .string (bs nd.s), .slice A nd.l.length c] 118 (0, 0)))
    (hrow : ∀ j, (h : j < nd.l.length) → ∃ bb o, A = some ⟨bb, o, none⟩ ∧ cellM M ⟨bb, o + j, none⟩ = some (.pointer (some ⟨bj j, 0, none⟩))) (hl : nd.l.length ≤ 1000000)
    (hk : ∀ j, (h : j < nd.l.length) → HSp 38 M ga gm V nd.l[j] (bj j) L) (hop : nd.op = 7) (hlen : nd.l.length = 2) : HSp 78 M ga gm V nd b L := by
  intro u w hu hM hA
  have hz := bs_size u
  have hzt := bs_toList u
  obtain ⟨hga, hgm⟩ := hA.lt
  have hc1 : cellM M ⟨b, 1, none⟩ = some (.int .i64 nd.op) := by simp [cellM, hb]
  have hc3 : cellM M ⟨b, 3, none⟩ = some (.slice A nd.l.length c) := by simp [cellM, hb]
  have HE' := Hid.mk (ev_eq nd)
  obtain ⟨hx0, hx1⟩ := two_boxesH hM #[.pointer (some ⟨ga, 0, none⟩)] #[.string (bs u)] 64 9
  have hM2 := (hM.alloc (.cells #[.pointer (some ⟨ga, 0, none⟩)] 64)).alloc (.cells #[.string (bs u)] 9)
  have hx2 := Box.new hM2 #[.func (.func 116) #[] #[.pointer (some ⟨w.heap.size, 0, none⟩), .pointer (some ⟨w.heap.size + 1, 0, none⟩)]] 165
  have hss : ((w.alloc (.cells #[.pointer (some ⟨ga, 0, none⟩)] 64)).alloc (.cells #[.string (bs u)] 9)).heap.size = w.heap.size + 2 := by simp
  rw [hss] at hx2
  have hx0 := hx0.alloc (.cells #[.func (.func 116) #[] #[.pointer (some ⟨w.heap.size, 0, none⟩), .pointer (some ⟨w.heap.size + 1, 0, none⟩)]] 165)
  have hx1 := hx1.alloc (.cells #[.func (.func 116) #[] #[.pointer (some ⟨w.heap.size, 0, none⟩), .pointer (some ⟨w.heap.size + 1, 0, none⟩)]] 165)
  have hM3 := hM2.alloc (.cells #[.func (.func 116) #[] #[.pointer (some ⟨w.heap.size, 0, none⟩), .pointer (some ⟨w.heap.size + 1, 0, none⟩)]] 165)
  have hA3 := ((hA.alloc (.cells #[.pointer (some ⟨ga, 0, none⟩)] 64)).alloc (.cells #[.string (bs u)] 9)).alloc (.cells #[.func (.func 116) #[] #[.pointer (some ⟨w.heap.size, 0, none⟩), .pointer (some ⟨w.heap.size + 1, 0, none⟩)]] 165)
  have hK3 := (((Kp.refl [gm] w).alloc (.cells #[.pointer (some ⟨ga, 0, none⟩)] 64)).alloc (.cells #[.string (bs u)] 9)).alloc (.cells #[.func (.func 116) #[] #[.pointer (some ⟨w.heap.size, 0, none⟩), .pointer (some ⟨w.heap.size + 1, 0, none⟩)]] 165)
  clear hM2 hss
  have HR := Hid.mk hrow
  have HK := Hid.mk hk
  have HB := Hid.mk hb
  clear hrow hk hb
  go_enter Tryz.func78, Tryz.ntmps78
  go_upto_region 2 with fail
  generalize ((w.alloc (.cells #[.pointer (some ⟨ga, 0, none⟩)] 64)).alloc (.cells #[.string (bs u)] 9)).alloc (.cells #[.func (.func 116) #[] #[.pointer (some ⟨w.heap.size, 0, none⟩), .pointer (some ⟨w.heap.size + 1, 0, none⟩)]] 165) = w3 at *
  have q0 : w3.cell? ⟨w.heap.size, 0, none⟩ = some (.pointer (some ⟨ga, 0, none⟩)) := hx0.cell 0
  have q1 : w3.cell? ⟨w.heap.size + 1, 0, none⟩ = some (.string (bs u)) := hx1.cell 0
  have q5 : w3.cell? ⟨w.heap.size + 2, 0, none⟩ = some (.func (.func 116) #[] #[.pointer (some ⟨w.heap.size, 0, none⟩), .pointer (some ⟨w.heap.size + 1, 0, none⟩)]) := hx2.cell 0
  have q2 := hM3.cell hc1
  have q4 := hM3.cell hc3
  have HL0 : Hid (∀ w', Mem w' M → Kp [gm] w3 w' → w'.cell? ⟨w.heap.size, 0, none⟩ = some (.pointer (some ⟨ga, 0, none⟩)) ∧ w'.cell? ⟨w.heap.size + 1, 0, none⟩ = some (.string (bs u)) ∧ w'.cell? ⟨w.heap.size + 2, 0, none⟩ = some (.func (.func 116) #[] #[.pointer (some ⟨w.heap.size, 0, none⟩), .pointer (some ⟨w.heap.size + 1, 0, none⟩)]) ∧ w'.cell? ⟨b, 3, none⟩ = some (.slice A nd.l.length c)) := Hid.mk (fun w' hm hk =>
    ⟨(hx0.same hk (by simp; omega)).cell 0, (hx1.same hk (by simp; omega)).cell 0, (hx2.same hk (by simp; omega)).cell 0, hm.cell hc3⟩)
  have HH := Hid.mk (And.intro hM3 (And.intro hA3 hK3))
  clear hx0 hx1 hx2 hM3 hA3 hK3 hc1 hc3
  have b0 : (nd.op == 0) = false := by rw [hop]; rfl
  have b1 : (nd.op == 1) = false := by rw [hop]; rfl
  have b2 : (nd.op == 2) = false := by rw [hop]; rfl
  have b4 : (nd.op == 4) = false := by rw [hop]; rfl
  have b5 : (nd.op == 5) = false := by rw [hop]; rfl
  have b6 : (nd.op == 6) = false := by rw [hop]; rfl
  have b7 : (nd.op == 7) = true := by rw [hop]; rfl
  have HL := Hid.mk hlen
  clear hlen
  obtain ⟨bb, o, rfl, k0⟩ := HR.out 0 (by have := HL.out; omega)
  rw [Nat.add_zero] at k0
  have hl0 : (0 : Int) < (nd.l.length : Int) := by have := HL.out; omega
  obtain ⟨bb', o', hbb, k1⟩ := HR.out 1 (by have := HL.out; omega)
  injection hbb with hbb
  injection hbb with hb1 hb2
  subst hb1 hb2
  have hl1 : (1 : Int) < (nd.l.length : Int) := by have := HL.out; omega
  obtain ⟨τ, W, x0, hx0, hC, hin⟩ := class_of (fun w' => Mem w' M ∧ As w' M ga gm V ∧ Kp [gm] w3 w') (w := w3.drew) ⟨HH.out.1.drew, HH.out.2.1.kp ((Kp.refl [] _).drew) (by simp) (by simp), (Kp.refl [gm] w3).drew⟩
  have hne : Nonempty τ := ⟨x0⟩
  have HC := Hid.mk hC
  have HIN := Hid.mk hin
  have HX0 := Hid.mk hx0
  clear hC hin hx0
  have c0 : ∀ x, (W x).cell? ⟨w.heap.size, 0, none⟩ = some (.pointer (some ⟨ga, 0, none⟩)) := fun x => (HL0.out _ (HC.out x).1 (HC.out x).2.2).1
  have c1 : ∀ x, (W x).cell? ⟨w.heap.size + 1, 0, none⟩ = some (.string (bs u)) := fun x => (HL0.out _ (HC.out x).1 (HC.out x).2.2).2.1
  have c2 : ∀ x, (W x).cell? ⟨w.heap.size + 2, 0, none⟩ = some (.func (.func 116) #[] #[.pointer (some ⟨w.heap.size, 0, none⟩), .pointer (some ⟨w.heap.size + 1, 0, none⟩)]) := fun x => (HL0.out _ (HC.out x).1 (HC.out x).2.2).2.2.1
  have c3 : ∀ x, (W x).cell? ⟨b, 3, none⟩ = some (.slice (some ⟨bb, o, none⟩) nd.l.length c) := fun x => (HL0.out _ (HC.out x).1 (HC.out x).2.2).2.2.2
  have d0 : ∀ x, (W x).cell? ⟨bb, o, none⟩ = some (.pointer (some ⟨bj 0, 0, none⟩)) := fun x => (HC.out x).1.cell k0
  have d1 : ∀ x, (W x).cell? ⟨bb, o + 1, none⟩ = some (.pointer (some ⟨bj 1, 0, none⟩)) := fun x => (HC.out x).1.cell k1
  have hcf0 : ∀ w', (callFunc 116 #[.pointer (some ⟨bj 0, 0, none⟩), .pointer (some ⟨w.heap.size, 0, none⟩), .pointer (some ⟨w.heap.size + 1, 0, none⟩)]).run Tryz.prog w' = .ok (.enter 116 #[.pointer (some ⟨bj 0, 0, none⟩), .pointer (some ⟨w.heap.size, 0, none⟩), .pointer (some ⟨w.heap.size + 1, 0, none⟩)]) w' := fun w' => by kernel_rfl
  have hcf1 : ∀ w', (callFunc 116 #[.pointer (some ⟨bj 1, 0, none⟩), .pointer (some ⟨w.heap.size, 0, none⟩), .pointer (some ⟨w.heap.size + 1, 0, none⟩)]).run Tryz.prog w' = .ok (.enter 116 #[.pointer (some ⟨bj 1, 0, none⟩), .pointer (some ⟨w.heap.size, 0, none⟩), .pointer (some ⟨w.heap.size + 1, 0, none⟩)]) w' := fun w' => by kernel_rfl
  have HM0 : Hid (∀ x, Calls Tryz.prog 116 #[.pointer (some ⟨bj 0, 0, none⟩), .pointer (some ⟨w.heap.size, 0, none⟩), .pointer (some ⟨w.heap.size + 1, 0, none⟩)] (W x) (fun e w' => e = .returned (.bool (ev (nd.l[0]'(by have := HL.out; omega)) u)) ∧ ∃ x, w' = W x)) := Hid.mk (fun x => (mask1_calls (HK.out 0 (by have := HL.out; omega)) hu (c0 x) (c1 x) (HC.out x).1 (HC.out x).2.1).mono (by rintro e w5 ⟨rfl, hM5, hA5, hk5⟩; exact ⟨rfl, HIN.out _ ⟨hM5, hA5, (HC.out x).2.2.trans hk5⟩⟩))
  have HM1 : Hid (∀ x, Calls Tryz.prog 116 #[.pointer (some ⟨bj 1, 0, none⟩), .pointer (some ⟨w.heap.size, 0, none⟩), .pointer (some ⟨w.heap.size + 1, 0, none⟩)] (W x) (fun e w' => e = .returned (.bool (ev (nd.l[1]'(by have := HL.out; omega)) u)) ∧ ∃ x, w' = W x)) := Hid.mk (fun x => (mask1_calls (HK.out 1 (by have := HL.out; omega)) hu (c0 x) (c1 x) (HC.out x).1 (HC.out x).2.1).mono (by rintro e w5 ⟨rfl, hM5, hA5, hk5⟩; exact ⟨rfl, HIN.out _ ⟨hM5, hA5, (HC.out x).2.2.trans hk5⟩⟩))
  have HE0 : Hid (nth (evs nd.l) 0 u = ev (nd.l[0]'(by have := HL.out; omega)) u) := Hid.mk (by rw [nth_ev (by have := HL.out; omega)])
  have HE1 : Hid (nth (evs nd.l) 1 u = ev (nd.l[1]'(by have := HL.out; omega)) u) := Hid.mk (by rw [nth_ev (by have := HL.out; omega)])
  have HX : Hid ((ev (nd.l[0]'(by have := HL.out; omega)) u && !ev (nd.l[1]'(by have := HL.out; omega)) u) = ev nd u) := Hid.mk (by
    rw [HE'.out, hop]
    show _ = (nth (evs nd.l) 0 u && !nth (evs nd.l) 1 u)
    rw [HE0.out, HE1.out])
  clear hop HE0 HE1
  cases hv : ev (nd.l[0]'(by have := HL.out; omega)) u with
  | true =>
    rw [hv] at HM0
    rw [hv, Bool.true_and] at HX
    clear hv
    go_upto_region 16 with fail
    refine wp_region_cls W x0 HX0.out (by kernel_rfl) (by kernel_rfl) ?_
    repeat (go_big_quiet_step (first | (go_at_call 116; exact HM0.out _) | (go_at_call 116; exact HM1.out _) | fail))
    refine wpQuiet_nil ?_
    rintro _ ⟨x, rfl⟩
    have HZ := Hid.mk (HC.out x)
    go_wp2_with fail
    go_ret
    exact ⟨ret_bool HX.out, HZ.out.1, HZ.out.2.1, HH.out.2.2.trans HZ.out.2.2⟩
  | false =>
    rw [hv] at HM0
    rw [hv, Bool.false_and] at HX
    clear hv
    go_upto_region 16 with fail
    refine wp_region_cls W x0 HX0.out (by kernel_rfl) (by kernel_rfl) ?_
    repeat (go_big_quiet_step (first | (go_at_call 116; exact HM0.out _) | fail))
    refine wpQuiet_nil ?_
    rintro _ ⟨x, rfl⟩
    have HZ := Hid.mk (HC.out x)
    go_wp2_with fail
    go_ret
    exact ⟨ret_bool HX.out, HZ.out.1, HZ.out.2.1, HH.out.2.2.trans HZ.out.2.2⟩
set_option maxRecDepth 100000 in
set_option maxHeartbeats 8000000 in
theorem ask_op9 {M : Heap} {ga gm L b c : Nat} {V : Nat → Bs → Bool} {nd : Nd} {A : Option Addr} {bj : Nat → Nat} (hL : L ≤ 1000) (hb : M b = some (.cells #[.int .i64 (nd.num : Nat), .int .i64 nd.op, .string (bs nd.s), .slice A nd.l.length c] 118 (0, 0)))
    (hrow : ∀ j, (h : j < nd.l.length) → ∃ bb o, A = some ⟨bb, o, none⟩ ∧ cellM M ⟨bb, o + j, none⟩ = some (.pointer (some ⟨bj j, 0, none⟩))) (hl : nd.l.length ≤ 1000000)
    (hk : ∀ j, (h : j < nd.l.length) → HSp 38 M ga gm V nd.l[j] (bj j) L) (hop : nd.op = 9) (hlen : nd.l.length = 1) : HSp 78 M ga gm V nd b L := by
  intro u w hu hM hA
  have hz := bs_size u
  have hzt := bs_toList u
  obtain ⟨hga, hgm⟩ := hA.lt
  have hc1 : cellM M ⟨b, 1, none⟩ = some (.int .i64 nd.op) := by simp [cellM, hb]
  have hc3 : cellM M ⟨b, 3, none⟩ = some (.slice A nd.l.length c) := by simp [cellM, hb]
  have HE' := Hid.mk (ev_eq nd)
  obtain ⟨hx0, hx1⟩ := two_boxesH hM #[.pointer (some ⟨ga, 0, none⟩)] #[.string (bs u)] 64 9
  have hM2 := (hM.alloc (.cells #[.pointer (some ⟨ga, 0, none⟩)] 64)).alloc (.cells #[.string (bs u)] 9)
  have hx2 := Box.new hM2 #[.func (.func 116) #[] #[.pointer (some ⟨w.heap.size, 0, none⟩), .pointer (some ⟨w.heap.size + 1, 0, none⟩)]] 165
  have hss : ((w.alloc (.cells #[.pointer (some ⟨ga, 0, none⟩)] 64)).alloc (.cells #[.string (bs u)] 9)).heap.size = w.heap.size + 2 := by simp
  rw [hss] at hx2
  have hx0 := hx0.alloc (.cells #[.func (.func 116) #[] #[.pointer (some ⟨w.heap.size, 0, none⟩), .pointer (some ⟨w.heap.size + 1, 0, none⟩)]] 165)
  have hx1 := hx1.alloc (.cells #[.func (.func 116) #[] #[.pointer (some ⟨w.heap.size, 0, none⟩), .pointer (some ⟨w.heap.size + 1, 0, none⟩)]] 165)
  have hM3 := hM2.alloc (.cells #[.func (.func 116) #[] #[.pointer (some ⟨w.heap.size, 0, none⟩), .pointer (some ⟨w.heap.size + 1, 0, none⟩)]] 165)
  have hA3 := ((hA.alloc (.cells #[.pointer (some ⟨ga, 0, none⟩)] 64)).alloc (.cells #[.string (bs u)] 9)).alloc (.cells #[.func (.func 116) #[] #[.pointer (some ⟨w.heap.size, 0, none⟩), .pointer (some ⟨w.heap.size + 1, 0, none⟩)]] 165)
  have hK3 := (((Kp.refl [gm] w).alloc (.cells #[.pointer (some ⟨ga, 0, none⟩)] 64)).alloc (.cells #[.string (bs u)] 9)).alloc (.cells #[.func (.func 116) #[] #[.pointer (some ⟨w.heap.size, 0, none⟩), .pointer (some ⟨w.heap.size + 1, 0, none⟩)]] 165)
  clear hM2 hss
  have HR := Hid.mk hrow
  have HK := Hid.mk hk
  have HB := Hid.mk hb
  clear hrow hk hb
  go_enter Tryz.func78, Tryz.ntmps78
  go_upto_region 2 with fail
  generalize ((w.alloc (.cells #[.pointer (some ⟨ga, 0, none⟩)] 64)).alloc (.cells #[.string (bs u)] 9)).alloc (.cells #[.func (.func 116) #[] #[.pointer (some ⟨w.heap.size, 0, none⟩), .pointer (some ⟨w.heap.size + 1, 0, none⟩)]] 165) = w3 at *
  have q0 : w3.cell? ⟨w.heap.size, 0, none⟩ = some (.pointer (some ⟨ga, 0, none⟩)) := hx0.cell 0
  have q1 : w3.cell? ⟨w.heap.size + 1, 0, none⟩ = some (.string (bs u)) := hx1.cell 0
  have q5 : w3.cell? ⟨w.heap.size + 2, 0, none⟩ = some (.func (.func 116) #[] #[.pointer (some ⟨w.heap.size, 0, none⟩), .pointer (some ⟨w.heap.size + 1, 0, none⟩)]) := hx2.cell 0
  have q2 := hM3.cell hc1
  have q4 := hM3.cell hc3
  have HL0 : Hid (∀ w', Mem w' M → Kp [gm] w3 w' → w'.cell? ⟨w.heap.size, 0, none⟩ = some (.pointer (some ⟨ga, 0, none⟩)) ∧ w'.cell? ⟨w.heap.size + 1, 0, none⟩ = some (.string (bs u)) ∧ w'.cell? ⟨w.heap.size + 2, 0, none⟩ = some (.func (.func 116) #[] #[.pointer (some ⟨w.heap.size, 0, none⟩), .pointer (some ⟨w.heap.size + 1, 0, none⟩)]) ∧ w'.cell? ⟨b, 3, none⟩ = some (.slice A nd.l.length c)) := Hid.mk (fun w' hm hk =>
    ⟨(hx0.same hk (by simp; omega)).cell 0, (hx1.same hk (by simp; omega)).cell 0, (hx2.same hk (by simp; omega)).cell 0, hm.cell hc3⟩)
  have HH := Hid.mk (And.intro hM3 (And.intro hA3 hK3))
  clear hx0 hx1 hx2 hM3 hA3 hK3 hc1 hc3
  have b0 : (nd.op == 0) = false := by rw [hop]; rfl
  have b1 : (nd.op == 1) = false := by rw [hop]; rfl
  have b2 : (nd.op == 2) = false := by rw [hop]; rfl
  have b4 : (nd.op == 4) = false := by rw [hop]; rfl
  have b5 : (nd.op == 5) = false := by rw [hop]; rfl
  have b6 : (nd.op == 6) = false := by rw [hop]; rfl
  have b7 : (nd.op == 7) = false := by rw [hop]; rfl
  have b8 : (nd.op == 8) = false := by rw [hop]; rfl
  have b9 : (nd.op == 9) = true := by rw [hop]; rfl
  have HL := Hid.mk hlen
  clear hlen
  obtain ⟨bb, o, rfl, k0⟩ := HR.out 0 (by have := HL.out; omega)
  rw [Nat.add_zero] at k0
  have hl0 : (0 : Int) < (nd.l.length : Int) := by have := HL.out; omega
  obtain ⟨τ, W, x0, hx0, hC, hin⟩ := class_of (fun w' => Mem w' M ∧ As w' M ga gm V ∧ Kp [gm] w3 w') (w := w3.drew) ⟨HH.out.1.drew, HH.out.2.1.kp ((Kp.refl [] _).drew) (by simp) (by simp), (Kp.refl [gm] w3).drew⟩
  have hne : Nonempty τ := ⟨x0⟩
  have HC := Hid.mk hC
  have HIN := Hid.mk hin
  have HX0 := Hid.mk hx0
  clear hC hin hx0
  have c0 : ∀ x, (W x).cell? ⟨w.heap.size, 0, none⟩ = some (.pointer (some ⟨ga, 0, none⟩)) := fun x => (HL0.out _ (HC.out x).1 (HC.out x).2.2).1
  have c1 : ∀ x, (W x).cell? ⟨w.heap.size + 1, 0, none⟩ = some (.string (bs u)) := fun x => (HL0.out _ (HC.out x).1 (HC.out x).2.2).2.1
  have c2 : ∀ x, (W x).cell? ⟨w.heap.size + 2, 0, none⟩ = some (.func (.func 116) #[] #[.pointer (some ⟨w.heap.size, 0, none⟩), .pointer (some ⟨w.heap.size + 1, 0, none⟩)]) := fun x => (HL0.out _ (HC.out x).1 (HC.out x).2.2).2.2.1
  have c3 : ∀ x, (W x).cell? ⟨b, 3, none⟩ = some (.slice (some ⟨bb, o, none⟩) nd.l.length c) := fun x => (HL0.out _ (HC.out x).1 (HC.out x).2.2).2.2.2
  have d0 : ∀ x, (W x).cell? ⟨bb, o, none⟩ = some (.pointer (some ⟨bj 0, 0, none⟩)) := fun x => (HC.out x).1.cell k0
  have hcf0 : ∀ w', (callFunc 116 #[.pointer (some ⟨bj 0, 0, none⟩), .pointer (some ⟨w.heap.size, 0, none⟩), .pointer (some ⟨w.heap.size + 1, 0, none⟩)]).run Tryz.prog w' = .ok (.enter 116 #[.pointer (some ⟨bj 0, 0, none⟩), .pointer (some ⟨w.heap.size, 0, none⟩), .pointer (some ⟨w.heap.size + 1, 0, none⟩)]) w' := fun w' => by kernel_rfl
  have HM0 : Hid (∀ x, Calls Tryz.prog 116 #[.pointer (some ⟨bj 0, 0, none⟩), .pointer (some ⟨w.heap.size, 0, none⟩), .pointer (some ⟨w.heap.size + 1, 0, none⟩)] (W x) (fun e w' => e = .returned (.bool (ev (nd.l[0]'(by have := HL.out; omega)) u)) ∧ ∃ x, w' = W x)) := Hid.mk (fun x => (mask1_calls (HK.out 0 (by have := HL.out; omega)) hu (c0 x) (c1 x) (HC.out x).1 (HC.out x).2.1).mono (by rintro e w5 ⟨rfl, hM5, hA5, hk5⟩; exact ⟨rfl, HIN.out _ ⟨hM5, hA5, (HC.out x).2.2.trans hk5⟩⟩))
  have HE0 : Hid (nth (evs nd.l) 0 u = ev (nd.l[0]'(by have := HL.out; omega)) u) := Hid.mk (by rw [nth_ev (by have := HL.out; omega)])
  have HX : Hid (((u == []) && ev (nd.l[0]'(by have := HL.out; omega)) u || (!(u == []) && starB (ev (nd.l[0]'(by have := HL.out; omega))) u)) = ev nd u) := Hid.mk (by
    rw [HE'.out, hop]
    show _ = ((u == []) && nth (evs nd.l) 0 u || (!(u == []) && starB (nth (evs nd.l) 0) u))
    rw [HE0.out, nth_ev (by have := HL.out; omega)])
  have HS : Hid (∀ x, Calls Tryz.prog 120 #[.pointer (some ⟨ga, 0, none⟩), .pointer (some ⟨bj 0, 0, none⟩), .string (bs u)] (W x) (fun e w' => e = .returned (.bool (starB (ev (nd.l[0]'(by have := HL.out; omega))) u)) ∧ ∃ x, w' = W x)) := Hid.mk (fun x => (star_calls hL (HK.out 0 (by have := HL.out; omega)) u (W x) hu (HC.out x).1 (HC.out x).2.1).mono (by rintro e w5 ⟨rfl, hM5, hA5, hk5⟩; exact ⟨rfl, HIN.out _ ⟨hM5, hA5, (HC.out x).2.2.trans hk5⟩⟩))
  clear hop HE0
  by_cases hu0 : u = []
  · have h1 : (u == []) = true := by rw [hu0]; rfl
    have h2 : u.isEmpty = true := by rw [hu0]; rfl
    have h3 : (!u.isEmpty) = false := by rw [hu0]; rfl
    rw [h1, Bool.true_and, Bool.not_true, Bool.false_and, Bool.or_false] at HX
    clear hu0
    cases hv : ev (nd.l[0]'(by have := HL.out; omega)) u with
    | true =>
      rw [hv] at HM0
      rw [hv] at HX
      clear hv
      go_upto_region 20 with fail
      refine wp_region_cls W x0 HX0.out (by kernel_rfl) (by kernel_rfl) ?_
      repeat (go_big_quiet_step (first | (go_at_call 116; exact HM0.out _) | fail))
      refine wpQuiet_nil ?_
      rintro _ ⟨x, rfl⟩
      have HZ := Hid.mk (HC.out x)
      go_wp2_with fail
      go_ret
      exact ⟨ret_bool HX.out, HZ.out.1, HZ.out.2.1, HH.out.2.2.trans HZ.out.2.2⟩
    | false =>
      rw [hv] at HM0
      rw [hv] at HX
      clear hv
      go_upto_region 20 with fail
      refine wp_region_cls W x0 HX0.out (by kernel_rfl) (by kernel_rfl) ?_
      repeat (go_big_quiet_step (first | (go_at_call 116; exact HM0.out _) | fail))
      refine wpQuiet_nil ?_
      rintro _ ⟨x, rfl⟩
      have HZ := Hid.mk (HC.out x)
      go_wp2_with fail
      go_ret
      exact ⟨ret_bool HX.out, HZ.out.1, HZ.out.2.1, HH.out.2.2.trans HZ.out.2.2⟩
  · have h1 : (u == []) = false := by simpa using hu0
    have h2 : u.isEmpty = false := by simpa using hu0
    have h3 : (!u.isEmpty) = true := by rw [h2]; rfl
    rw [h1, Bool.false_and, Bool.false_or, Bool.not_false, Bool.true_and] at HX
    clear hu0
    go_upto_region 20 with fail
    refine wp_region_cls W x0 HX0.out (by kernel_rfl) (by kernel_rfl) ?_
    repeat (go_big_quiet_step (first | (go_at_call 120; exact HS.out _) | fail))
    refine wpQuiet_nil ?_
    rintro _ ⟨x, rfl⟩
    have HZ := Hid.mk (HC.out x)
    go_wp2_with fail
    go_ret
    exact ⟨ret_bool HX.out, HZ.out.1, HZ.out.2.1, HH.out.2.2.trans HZ.out.2.2⟩
end Go.Proofs.YtgdnhlckodhhgaaGreatDoor

/-
  slices.ContainsFunc over nodes, whatever the function does to memory.
-/
namespace Go.Proofs.YtgdnhlckodhhgaaGreatDoor
open Go.RowKit
set_option linter.unusedVariables false
set_option linter.unusedSimpArgs false
set_option maxRecDepth 100000 in
set_option maxHeartbeats 2000000 in
theorem IndexFuncN_calls {K n : Nat} {p : Nat → Bool} {bj : Nat → Nat} {cap : Array Value} {I : World → Prop} (hcf : ∀ a w, (callFunc K (#[.pointer (some ⟨a, 0, none⟩)] ++ cap)).run Tryz.prog w = .ok (.enter K (#[.pointer (some ⟨a, 0, none⟩)] ++ cap)) w) {b o : Nat}
    (hK : ∀ j w, j < n → I w → Calls Tryz.prog K (#[.pointer (some ⟨bj j, 0, none⟩)] ++ cap) w fun e w' => e = .returned (.bool (p j)) ∧ I w')
    (hc : ∀ w, I w → ∀ j, j < n → w.cell? ⟨b, o + j, none⟩ = some (.pointer (some ⟨bj j, 0, none⟩))) (c : Nat) (w : World) (hI : I w) (hl : n ≤ 1000000) :
    Calls Tryz.prog 174 #[.slice (some ⟨b, o, none⟩) n c, .func (.func K) #[] cap] w fun e w' => (∃ i : Int, e = .returned (.int .i64 i) ∧ decide (0 ≤ i) = (List.range n).any p) ∧ I w' := by
  have HC := Hid.mk hcf
  have HI := Hid.mk hI
  clear hcf hI
  go_enter Tryz.func174, Tryz.ntmps174
  go_wp2_with fail
  go_loopg [8] n (fun k v8 wr => ∃ j : Nat, j ≤ n ∧ k = n - j ∧ v8 = .int .i64 (j : Nat) ∧ (List.range j).any p = false ∧ Hid (I wr))
  case atStart => exact ⟨0, Nat.zero_le _, by simp, rfl, by simp, HI⟩
  case round =>
    obtain ⟨j, hj, hk, rfl, HJ, HIr⟩ := hrel
    replace HJ := Hid.mk HJ
    by_cases hlt : j < n
    · have hg := hc _ HIr.out j hlt
      have HT := Hid.mk (any_range (f := p) j)
      have hcf := fun w => HC.out (bj j) w
      by_cases hp : p j = true
      · have HF : Hid ((List.range n).any p = true) := Hid.mk (by rw [List.any_eq_true]; exact ⟨j, by simpa using hlt, hp⟩)
        go_wp2_with fail
        refine (hK _ _ hlt HIr.out).mono ?_
        rintro e w' ⟨rfl, hI2⟩
        have HI2 := Hid.mk hI2
        clear hI2
        go_wp2_with fail
        go_ret
        exact ⟨⟨_, rfl, by rw [HF.out, decide_eq_true_eq]; omega⟩, HI2.out⟩
      · replace hp := Bool.eq_false_iff.2 hp
        have HD := Hid.mk hp
        go_wp2_with fail
        refine (hK _ _ hlt HIr.out).mono ?_
        rintro e w' ⟨rfl, hI2⟩
        have HI2 := Hid.mk hI2
        clear hI2
        go_wp2_with fail
        go_roundg (n - (j + 1))
        case measure => omega
        case rel => exact ⟨j + 1, by omega, rfl, by go_num, by rw [HT.out, HJ.out, HD.out]; rfl, HI2⟩
    · obtain rfl : j = n := by omega
      have HE := HJ
      go_wp2_with fail
      go_ret
      exact ⟨⟨_, rfl, by rw [HE.out]; rfl⟩, HIr.out⟩
set_option maxRecDepth 100000 in
set_option maxHeartbeats 1000000 in
theorem ContainsFuncN_calls {K n : Nat} {p : Nat → Bool} {bj : Nat → Nat} {cap : Array Value} {I : World → Prop} (hcf : ∀ a w, (callFunc K (#[.pointer (some ⟨a, 0, none⟩)] ++ cap)).run Tryz.prog w = .ok (.enter K (#[.pointer (some ⟨a, 0, none⟩)] ++ cap)) w) {b o : Nat}
    (hK : ∀ j w, j < n → I w → Calls Tryz.prog K (#[.pointer (some ⟨bj j, 0, none⟩)] ++ cap) w fun e w' => e = .returned (.bool (p j)) ∧ I w')
    (hc : ∀ w, I w → ∀ j, j < n → w.cell? ⟨b, o + j, none⟩ = some (.pointer (some ⟨bj j, 0, none⟩))) (c : Nat) (w : World) (hI : I w) (hl : n ≤ 1000000) :
    Calls Tryz.prog 118 #[.slice (some ⟨b, o, none⟩) n c, .func (.func K) #[] cap] w fun e w' => e = .returned (.bool ((List.range n).any p)) ∧ I w' := by
  have H := Hid.mk (IndexFuncN_calls hcf hK hc c w hI hl)
  clear hcf hK hc hI
  go_enter Tryz.func118, Tryz.ntmps118
  go_wp2_with fail
  refine H.out.mono ?_
  rintro e w' ⟨⟨i, rfl, hi⟩, hI⟩
  have HX := Hid.mk hi
  have HI := Hid.mk hI
  clear hi hI
  go_wp2_with fail
  go_ret
  exact ⟨ret_bool HX.out, HI.out⟩
set_option maxRecDepth 100000 in
set_option maxHeartbeats 2000000 in
/-- The closure that asks of a node whether it does not hold. -/
theorem mask2_calls {M : Heap} {ga gm b L : Nat} {V : Nat → Bs → Bool} {nd : Nd} (hx : HSp 38 M ga gm V nd b L) {p q r : Nat} {u : Bs} {w : World} (hu : u.length ≤ L) (z0 : w.cell? ⟨p, 0, none⟩ = some (.pointer (some ⟨ga, 0, none⟩))) (z1 : w.cell? ⟨q, 0, none⟩ = some (.string (bs u))) (z2 : w.cell? ⟨r, 0, none⟩ = some (.func (.func 116) #[] #[.pointer (some ⟨p, 0, none⟩), .pointer (some ⟨q, 0, none⟩)])) (hM : Mem w M) (hA : As w M ga gm V) :
    Calls Tryz.prog 119 #[.pointer (some ⟨b, 0, none⟩), .pointer (some ⟨r, 0, none⟩)] w (HE M ga gm V w (!ev nd u)) := by
  have HX := Hid.mk (mask1_calls hx hu z0 z1 hM hA)
  have hcf : ∀ w', (callFunc 116 #[.pointer (some ⟨b, 0, none⟩), .pointer (some ⟨p, 0, none⟩), .pointer (some ⟨q, 0, none⟩)]).run Tryz.prog w' = .ok (.enter 116 #[.pointer (some ⟨b, 0, none⟩), .pointer (some ⟨p, 0, none⟩), .pointer (some ⟨q, 0, none⟩)]) w' := fun w' => by kernel_rfl
  clear hx hM hA
  go_enter Tryz.func119, Tryz.ntmps119
  go_wp2_with fail
  refine HX.out.mono ?_
  rintro e w5 ⟨rfl, hM5, hA5, hk5⟩
  have HZ := Hid.mk (And.intro hM5 (And.intro hA5 hk5))
  clear hM5 hA5 hk5
  go_wp2_with fail
  go_ret
  exact ⟨rfl, HZ.out⟩
theorem any_nodes {l : List Nd} {f : Nd → Bool} : (List.range l.length).any (fun j => f (l.getD j default)) = l.any f := by
  rw [Bool.eq_iff_iff, List.any_eq_true, List.any_eq_true]
  constructor
  · rintro ⟨j, hj, h⟩
    rw [List.mem_range] at hj
    refine ⟨l[j], List.getElem_mem hj, ?_⟩
    rwa [List.getD_eq_getElem?_getD, List.getElem?_eq_getElem hj] at h
  · rintro ⟨x, hx, h⟩
    obtain ⟨j, hj, rfl⟩ := List.getElem_of_mem hx
    exact ⟨j, by simpa using hj, by rwa [List.getD_eq_getElem?_getD, List.getElem?_eq_getElem hj]⟩
theorem any_evs (l : List Nd) (u : Bs) : (evs l).any (fun p => p u) = l.any (fun x => ev x u) := by
  rw [evs_map, List.any_map]; rfl
theorem all_evs (l : List Nd) (u : Bs) : (evs l).all (fun p => p u) = !(l.any (fun x => !ev x u)) := by
  rw [evs_map, List.all_map]
  induction l with
  | nil => rfl
  | cons a l ih => simp only [List.all_cons, List.any_cons, Bool.not_or, Bool.not_not, ih, Function.comp]
end Go.Proofs.YtgdnhlckodhhgaaGreatDoor
