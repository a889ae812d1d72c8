/-
  The asker: whether a word begins, or ends, with one of a node's.
-/
import Derived.Test.YtgdnhlckodhhgaaGreatDoorJH
import Derived.BigQuiet
import Derived.Test.YtgdnhlckodhhgaaGreatDoorJI
namespace Go.Proofs.YtgdnhlckodhhgaaGreatDoor
open Go.RowKit
set_option linter.unusedVariables false
set_option linter.unusedSimpArgs false
theorem any_range {f : Nat → Bool} (j : Nat) : (List.range (j + 1)).any f = ((List.range j).any f || f j) := by
  rw [List.range_succ, List.any_append]; simp
set_option maxRecDepth 100000 in
set_option maxHeartbeats 4000000 in
theorem Begins_calls {M : Heap} {ga gm b L : Nat} (hL : L ≤ 1000) {V : Nat → Bs → Bool} {nd : Nd} (hx : HSp 38 M ga gm V nd b L) (u : Bs) (w : World) (hu : u.length ≤ L) (hM : Mem w M) (hA : As w M ga gm V) :
    Calls Tryz.prog 121 #[.pointer (some ⟨ga, 0, none⟩), .pointer (some ⟨b, 0, none⟩), .string (bs u)] w (HE M ga gm V w (beginsB (ev nd) u)) := by
  have hz := bs_size u
  have HX := Hid.mk (fun j => show (bs u).extract 0 j = bs (u.take j) by rw [bs_extract, List.drop_zero])
  have HXX := Hid.mk hx
  clear hx
  go_enter Tryz.func121, Tryz.ntmps121
  go_wp2_with fail
  go_loopg [11] (u.length + 1) (fun kk v wr => ∃ j : Nat, j ≤ u.length + 1 ∧ kk = u.length + 1 - j ∧ v = .int .i64 (j : Nat) ∧ Hid ((List.range j).any (fun i => ev nd (u.take i)) = false) ∧ Mem wr M ∧ As wr M ga gm V ∧ Kp [gm] w wr)
  case atStart => exact ⟨0, Nat.zero_le _, by simp, rfl, Hid.mk rfl, hM, hA, Kp.refl _ _⟩
  case round =>
    obtain ⟨j, hj, hk, rfl, HJ, hM', hA', hK⟩ := hrel
    by_cases hlt : j ≤ u.length
    · have hext := HX.out j
      have hlt' : (j : Int) < (u.length : Int) + 1 := by omega
      have hpl : (u.take j).length ≤ L := by rw [List.length_take]; omega
      have HC := Hid.mk (HXX.out (u.take j) wr hpl hM' hA')
      have HK := Hid.mk hK
      have HR := Hid.mk (any_range (f := fun i => ev nd (u.take i)) j)
      cases hv : ev nd (u.take j) with
      | true =>
        have HT : Hid (beginsB (ev nd) u = true) := Hid.mk (by
          unfold beginsB
          rw [List.any_eq_true]
          exact ⟨j, by simp; omega, hv⟩)
        rw [hv] at HC
        clear hv hM' hA' hK
        go_wp2_with fail
        refine HC.out.mono ?_
        rintro e w5 ⟨rfl, hM5, hA5, hk5⟩
        have HZ := Hid.mk (And.intro hM5 (And.intro hA5 (HK.out.trans hk5)))
        clear hM5 hA5 hk5
        go_wp2_with fail
        go_ret
        exact ⟨ret_bool HT.out.symm, HZ.out⟩
      | false =>
        have HT : Hid ((List.range (j + 1)).any (fun i => ev nd (u.take i)) = false) := Hid.mk (by rw [HR.out, HJ.out, hv]; rfl)
        rw [hv] at HC
        clear hv hM' hA' hK
        go_wp2_with fail
        refine HC.out.mono ?_
        rintro e w5 ⟨rfl, hM5, hA5, hk5⟩
        have HZ := Hid.mk (And.intro hM5 (And.intro hA5 (HK.out.trans hk5)))
        clear hM5 hA5 hk5
        go_wp2_with fail
        go_roundg (u.length + 1 - (j + 1))
        case measure => omega
        case rel => exact ⟨j + 1, by omega, rfl, by go_num, HT, HZ.out.1, HZ.out.2.1, HZ.out.2.2⟩
    · obtain rfl : j = u.length + 1 := by omega
      have hlt' : ¬ (((u.length + 1 : Nat) : Int) < (u.length : Int) + 1) := by omega
      have HT : Hid (beginsB (ev nd) u = false) := HJ
      go_wp2_with fail
      go_ret
      exact ⟨ret_bool HT.out.symm, hM', hA', hK⟩
set_option maxRecDepth 100000 in
set_option maxHeartbeats 4000000 in
theorem Ends_calls {M : Heap} {ga gm b L : Nat} (hL : L ≤ 1000) {V : Nat → Bs → Bool} {nd : Nd} (hx : HSp 38 M ga gm V nd b L) (u : Bs) (w : World) (hu : u.length ≤ L) (hM : Mem w M) (hA : As w M ga gm V) :
    Calls Tryz.prog 175 #[.pointer (some ⟨ga, 0, none⟩), .pointer (some ⟨b, 0, none⟩), .string (bs u)] w (HE M ga gm V w (endsB (ev nd) u)) := by
  have hz := bs_size u
  have HX := Hid.mk (fun j => show (bs u).extract j u.length = bs (u.drop j) by rw [bs_extract, List.take_length])
  have HXX := Hid.mk hx
  clear hx
  go_enter Tryz.func175, Tryz.ntmps175
  go_wp2_with fail
  go_loopg [11] (u.length + 1) (fun kk v wr => ∃ j : Nat, j ≤ u.length + 1 ∧ kk = u.length + 1 - j ∧ v = .int .i64 (j : Nat) ∧ Hid ((List.range j).any (fun i => ev nd (u.drop i)) = false) ∧ Mem wr M ∧ As wr M ga gm V ∧ Kp [gm] w wr)
  case atStart => exact ⟨0, Nat.zero_le _, by simp, rfl, Hid.mk rfl, hM, hA, Kp.refl _ _⟩
  case round =>
    obtain ⟨j, hj, hk, rfl, HJ, hM', hA', hK⟩ := hrel
    by_cases hlt : j ≤ u.length
    · have hext := HX.out j
      have hlt' : (j : Int) < (u.length : Int) + 1 := by omega
      have hpl : (u.drop j).length ≤ L := by rw [List.length_drop]; omega
      have HC := Hid.mk (HXX.out (u.drop j) wr hpl hM' hA')
      have HK := Hid.mk hK
      have HR := Hid.mk (any_range (f := fun i => ev nd (u.drop i)) j)
      cases hv : ev nd (u.drop j) with
      | true =>
        have HT : Hid (endsB (ev nd) u = true) := Hid.mk (by
          unfold endsB
          rw [List.any_eq_true]
          exact ⟨j, by simp; omega, hv⟩)
        rw [hv] at HC
        clear hv hM' hA' hK
        go_wp2_with fail
        refine HC.out.mono ?_
        rintro e w5 ⟨rfl, hM5, hA5, hk5⟩
        have HZ := Hid.mk (And.intro hM5 (And.intro hA5 (HK.out.trans hk5)))
        clear hM5 hA5 hk5
        go_wp2_with fail
        go_ret
        exact ⟨ret_bool HT.out.symm, HZ.out⟩
      | false =>
        have HT : Hid ((List.range (j + 1)).any (fun i => ev nd (u.drop i)) = false) := Hid.mk (by rw [HR.out, HJ.out, hv]; rfl)
        rw [hv] at HC
        clear hv hM' hA' hK
        go_wp2_with fail
        refine HC.out.mono ?_
        rintro e w5 ⟨rfl, hM5, hA5, hk5⟩
        have HZ := Hid.mk (And.intro hM5 (And.intro hA5 (HK.out.trans hk5)))
        clear hM5 hA5 hk5
        go_wp2_with fail
        go_roundg (u.length + 1 - (j + 1))
        case measure => omega
        case rel => exact ⟨j + 1, by omega, rfl, by go_num, HT, HZ.out.1, HZ.out.2.1, HZ.out.2.2⟩
    · obtain rfl : j = u.length + 1 := by omega
      have hlt' : ¬ (((u.length + 1 : Nat) : Int) < (u.length : Int) + 1) := by omega
      have HT : Hid (endsB (ev nd) u = false) := HJ
      go_wp2_with fail
      go_ret
      exact ⟨ret_bool HT.out.symm, hM', hA', hK⟩
end Go.Proofs.YtgdnhlckodhhgaaGreatDoor

/-
  A region that draws its order, whose calls leave a world of a class: one walk, in the text's order.
-/
namespace Go.Proofs.YtgdnhlckodhhgaaGreatDoor
open Go.RowKit
set_option linter.unusedVariables false

/-- A class of worlds as the values of a function. -/
theorem class_of (C : World → Prop) {w : World} (h : C w) : ∃ (τ : Type) (W : τ → World) (x0 : τ), W x0 = w ∧ (∀ x, C (W x)) ∧ (∀ w', C w' → ∃ x, w' = W x) :=
  ⟨{w : World // C w}, Subtype.val, ⟨w, h⟩, rfl, fun x => x.2, fun w' h => ⟨⟨w', h⟩, rfl⟩⟩

/-- The region, walked in the text's order, at such a class. -/
theorem wp_region_cls {P : Program} {τ : Type} (W : τ → World) {id : Nat} {Q : Exit → Act → World → Prop} {a : Act} {w : World} {l : List Oper} (x0 : τ) (h0 : W x0 = w.drew)
    (hm : P.follows .mixedOrders = true) (hB : Region.lexB .any l.toArray = true)
    (h : wpQuiet P l.toArray (fun w' => ∃ x, w' = W x) (fun a' => ∀ w', (∃ x, w' = W x) → Q .normal a' w') l a) : (Code.region id l.toArray true).wp P Q a w :=
  wp_region_quiet (C := fun w' => ∃ x, w' = W x) hm hB ⟨x0, h0.symm⟩ (by simpa using h)

end Go.Proofs.YtgdnhlckodhhgaaGreatDoor

/-
  The asker: what it asks of a node (more operations).
-/
namespace Go.Proofs.YtgdnhlckodhhgaaGreatDoor
open Go.RowKit
set_option linter.unusedVariables false
set_option linter.unusedSimpArgs false
set_option maxRecDepth 100000 in
set_option maxHeartbeats 2000000 in
/-- The closure that asks of a node. -/
theorem mask1_calls {M : Heap} {ga gm b L : Nat} {V : Nat → Bs → Bool} {nd : Nd} (hx : HSp 38 M ga gm V nd b L) {p q : Nat} {u : Bs} {w : World} (hu : u.length ≤ L) (z0 : w.cell? ⟨p, 0, none⟩ = some (.pointer (some ⟨ga, 0, none⟩))) (z1 : w.cell? ⟨q, 0, none⟩ = some (.string (bs u))) (hM : Mem w M) (hA : As w M ga gm V) :
    Calls Tryz.prog 116 #[.pointer (some ⟨b, 0, none⟩), .pointer (some ⟨p, 0, none⟩), .pointer (some ⟨q, 0, none⟩)] w (HE M ga gm V w (ev nd u)) := by
  have HX := Hid.mk (hx u w hu hM hA)
  clear hx hM hA
  go_enter Tryz.func116, Tryz.ntmps116
  go_wp2_with fail
  refine HX.out.mono ?_
  rintro e w5 ⟨rfl, hM5, hA5, hk5⟩
  have HZ := Hid.mk (And.intro hM5 (And.intro hA5 hk5))
  clear hM5 hA5 hk5
  go_wp2_with fail
  go_ret
  exact ⟨rfl, HZ.out⟩
theorem nth_ev {l : List Nd} {j : Nat} (h : j < l.length) : nth (evs l) j = ev l[j] := by
  rw [evs_map]
  unfold nth
  rw [List.getD_eq_getElem?_getD, List.getElem?_map, List.getElem?_eq_getElem h]; rfl
set_option maxRecDepth 100000 in
set_option maxHeartbeats 8000000 in
theorem ask_op1 {M : Heap} {ga gm L b c : Nat} {V : Nat → Bs → Bool} {nd : Nd} {A : Option Addr} {bj : Nat → Nat} (hL : L ≤ 1000) (hb : M b = some (.cells #[.int .i64 (nd.num : Nat), .int .i64 nd.op, .string (bs nd.s), .slice A nd.l.length c] 118 (0, 0)))
    (hrow : ∀ j, (h : j < nd.l.length) → ∃ bb o, A = some ⟨bb, o, none⟩ ∧ cellM M ⟨bb, o + j, none⟩ = some (.pointer (some ⟨bj j, 0, none⟩))) (hl : nd.l.length ≤ 1000000)
    (hk : ∀ j, (h : j < nd.l.length) → HSp 38 M ga gm V nd.l[j] (bj j) L) (hop : nd.op = 1) (hlen : True) : HSp 78 M ga gm V nd b L := by
  intro u w hu hM hA
  have hz := bs_size u
  have hzt := bs_toList u
  obtain ⟨hga, hgm⟩ := hA.lt
  have hc1 : cellM M ⟨b, 1, none⟩ = some (.int .i64 nd.op) := by simp [cellM, hb]
  have hc3 : cellM M ⟨b, 3, none⟩ = some (.slice A nd.l.length c) := by simp [cellM, hb]
  have HE' := Hid.mk (ev_eq nd)
  obtain ⟨hx0, hx1⟩ := two_boxesH hM #[.pointer (some ⟨ga, 0, none⟩)] #[.string (bs u)] 64 9
  have hM2 := (hM.alloc (.cells #[.pointer (some ⟨ga, 0, none⟩)] 64)).alloc (.cells #[.string (bs u)] 9)
  have hx2 := Box.new hM2 #[.func (.func 116) #[] #[.pointer (some ⟨w.heap.size, 0, none⟩), .pointer (some ⟨w.heap.size + 1, 0, none⟩)]] 165
  have hss : ((w.alloc (.cells #[.pointer (some ⟨ga, 0, none⟩)] 64)).alloc (.cells #[.string (bs u)] 9)).heap.size = w.heap.size + 2 := by simp
  rw [hss] at hx2
  have hx0 := hx0.alloc (.cells #[.func (.func 116) #[] #[.pointer (some ⟨w.heap.size, 0, none⟩), .pointer (some ⟨w.heap.size + 1, 0, none⟩)]] 165)
  have hx1 := hx1.alloc (.cells #[.func (.func 116) #[] #[.pointer (some ⟨w.heap.size, 0, none⟩), .pointer (some ⟨w.heap.size + 1, 0, none⟩)]] 165)
  have hM3 := hM2.alloc (.cells #[.func (.func 116) #[] #[.pointer (some ⟨w.heap.size, 0, none⟩), .pointer (some ⟨w.heap.size + 1, 0, none⟩)]] 165)
  have hA3 := ((hA.alloc (.cells #[.pointer (some ⟨ga, 0, none⟩)] 64)).alloc (.cells #[.string (bs u)] 9)).alloc (.cells #[.func (.func 116) #[] #[.pointer (some ⟨w.heap.size, 0, none⟩), .pointer (some ⟨w.heap.size + 1, 0, none⟩)]] 165)
  have hK3 := (((Kp.refl [gm] w).alloc (.cells #[.pointer (some ⟨ga, 0, none⟩)] 64)).alloc (.cells #[.string (bs u)] 9)).alloc (.cells #[.func (.func 116) #[] #[.pointer (some ⟨w.heap.size, 0, none⟩), .pointer (some ⟨w.heap.size + 1, 0, none⟩)]] 165)
  clear hM2 hss
  have HR := Hid.mk hrow
  have HK := Hid.mk hk
  have HB := Hid.mk hb
  clear hrow hk hb
  go_enter Tryz.func78, Tryz.ntmps78
  go_upto_region 2 with fail
  generalize ((w.alloc (.cells #[.pointer (some ⟨ga, 0, none⟩)] 64)).alloc (.cells #[.string (bs u)] 9)).alloc (.cells #[.func (.func 116) #[] #[.pointer (some ⟨w.heap.size, 0, none⟩), .pointer (some ⟨w.heap.size + 1, 0, none⟩)]] 165) = w3 at *
  have q0 : w3.cell? ⟨w.heap.size, 0, none⟩ = some (.pointer (some ⟨ga, 0, none⟩)) := hx0.cell 0
  have q1 : w3.cell? ⟨w.heap.size + 1, 0, none⟩ = some (.string (bs u)) := hx1.cell 0
  have q5 : w3.cell? ⟨w.heap.size + 2, 0, none⟩ = some (.func (.func 116) #[] #[.pointer (some ⟨w.heap.size, 0, none⟩), .pointer (some ⟨w.heap.size + 1, 0, none⟩)]) := hx2.cell 0
  have q2 := hM3.cell hc1
  have q4 := hM3.cell hc3
  have HL0 : Hid (∀ w', Mem w' M → Kp [gm] w3 w' → w'.cell? ⟨w.heap.size, 0, none⟩ = some (.pointer (some ⟨ga, 0, none⟩)) ∧ w'.cell? ⟨w.heap.size + 1, 0, none⟩ = some (.string (bs u)) ∧ w'.cell? ⟨w.heap.size + 2, 0, none⟩ = some (.func (.func 116) #[] #[.pointer (some ⟨w.heap.size, 0, none⟩), .pointer (some ⟨w.heap.size + 1, 0, none⟩)]) ∧ w'.cell? ⟨b, 3, none⟩ = some (.slice A nd.l.length c)) := Hid.mk (fun w' hm hk =>
    ⟨(hx0.same hk (by simp; omega)).cell 0, (hx1.same hk (by simp; omega)).cell 0, (hx2.same hk (by simp; omega)).cell 0, hm.cell hc3⟩)
  have HH := Hid.mk (And.intro hM3 (And.intro hA3 hK3))
  clear hx0 hx1 hx2 hM3 hA3 hK3 hc1 hc3
  have b0 : (nd.op == 0) = false := by rw [hop]; rfl
  have b1 : (nd.op == 1) = true := by rw [hop]; rfl
  have HX : Hid (((u.length : Int) == 1) = ev nd u) := Hid.mk (by
    rw [HE'.out, hop]
    show _ = (u.length == 1)
    rw [Bool.eq_iff_iff, beq_iff_eq, beq_iff_eq]; omega)
  clear hop
  go_wp2_with fail
  go_ret
  exact ⟨ret_bool HX.out, HH.out.1, HH.out.2.1, HH.out.2.2⟩
set_option maxRecDepth 100000 in
set_option maxHeartbeats 8000000 in
theorem ask_op2 {M : Heap} {ga gm L b c : Nat} {V : Nat → Bs → Bool} {nd : Nd} {A : Option Addr} {bj : Nat → Nat} (hL : L ≤ 1000) (hb : M b = some (.cells #[.int .i64 (nd.num : Nat), .int .i64 nd.op, .string (bs nd.s), .slice A nd.l.length c] 118 (0, 0)))
    (hrow : ∀ j, (h : j < nd.l.length) → ∃ bb o, A = some ⟨bb, o, none⟩ ∧ cellM M ⟨bb, o + j, none⟩ = some (.pointer (some ⟨bj j, 0, none⟩))) (hl : nd.l.length ≤ 1000000)
    (hk : ∀ j, (h : j < nd.l.length) → HSp 38 M ga gm V nd.l[j] (bj j) L) (hop : nd.op = 2) (hlen : True) : HSp 78 M ga gm V nd b L := by
  intro u w hu hM hA
  have hz := bs_size u
  have hzt := bs_toList u
  obtain ⟨hga, hgm⟩ := hA.lt
  have hc1 : cellM M ⟨b, 1, none⟩ = some (.int .i64 nd.op) := by simp [cellM, hb]
  have hc3 : cellM M ⟨b, 3, none⟩ = some (.slice A nd.l.length c) := by simp [cellM, hb]
  have HE' := Hid.mk (ev_eq nd)
  obtain ⟨hx0, hx1⟩ := two_boxesH hM #[.pointer (some ⟨ga, 0, none⟩)] #[.string (bs u)] 64 9
  have hM2 := (hM.alloc (.cells #[.pointer (some ⟨ga, 0, none⟩)] 64)).alloc (.cells #[.string (bs u)] 9)
  have hx2 := Box.new hM2 #[.func (.func 116) #[] #[.pointer (some ⟨w.heap.size, 0, none⟩), .pointer (some ⟨w.heap.size + 1, 0, none⟩)]] 165
  have hss : ((w.alloc (.cells #[.pointer (some ⟨ga, 0, none⟩)] 64)).alloc (.cells #[.string (bs u)] 9)).heap.size = w.heap.size + 2 := by simp
  rw [hss] at hx2
  have hx0 := hx0.alloc (.cells #[.func (.func 116) #[] #[.pointer (some ⟨w.heap.size, 0, none⟩), .pointer (some ⟨w.heap.size + 1, 0, none⟩)]] 165)
  have hx1 := hx1.alloc (.cells #[.func (.func 116) #[] #[.pointer (some ⟨w.heap.size, 0, none⟩), .pointer (some ⟨w.heap.size + 1, 0, none⟩)]] 165)
  have hM3 := hM2.alloc (.cells #[.func (.func 116) #[] #[.pointer (some ⟨w.heap.size, 0, none⟩), .pointer (some ⟨w.heap.size + 1, 0, none⟩)]] 165)
  have hA3 := ((hA.alloc (.cells #[.pointer (some ⟨ga, 0, none⟩)] 64)).alloc (.cells #[.string (bs u)] 9)).alloc (.cells #[.func (.func 116) #[] #[.pointer (some ⟨w.heap.size, 0, none⟩), .pointer (some ⟨w.heap.size + 1, 0, none⟩)]] 165)
  have hK3 := (((Kp.refl [gm] w).alloc (.cells #[.pointer (some ⟨ga, 0, none⟩)] 64)).alloc (.cells #[.string (bs u)] 9)).alloc (.cells #[.func (.func 116) #[] #[.pointer (some ⟨w.heap.size, 0, none⟩), .pointer (some ⟨w.heap.size + 1, 0, none⟩)]] 165)
  clear hM2 hss
  have HR := Hid.mk hrow
  have HK := Hid.mk hk
  have HB := Hid.mk hb
  clear hrow hk hb
  go_enter Tryz.func78, Tryz.ntmps78
  go_upto_region 2 with fail
  generalize ((w.alloc (.cells #[.pointer (some ⟨ga, 0, none⟩)] 64)).alloc (.cells #[.string (bs u)] 9)).alloc (.cells #[.func (.func 116) #[] #[.pointer (some ⟨w.heap.size, 0, none⟩), .pointer (some ⟨w.heap.size + 1, 0, none⟩)]] 165) = w3 at *
  have q0 : w3.cell? ⟨w.heap.size, 0, none⟩ = some (.pointer (some ⟨ga, 0, none⟩)) := hx0.cell 0
  have q1 : w3.cell? ⟨w.heap.size + 1, 0, none⟩ = some (.string (bs u)) := hx1.cell 0
  have q5 : w3.cell? ⟨w.heap.size + 2, 0, none⟩ = some (.func (.func 116) #[] #[.pointer (some ⟨w.heap.size, 0, none⟩), .pointer (some ⟨w.heap.size + 1, 0, none⟩)]) := hx2.cell 0
  have q2 := hM3.cell hc1
  have q4 := hM3.cell hc3
  have HL0 : Hid (∀ w', Mem w' M → Kp [gm] w3 w' → w'.cell? ⟨w.heap.size, 0, none⟩ = some (.pointer (some ⟨ga, 0, none⟩)) ∧ w'.cell? ⟨w.heap.size + 1, 0, none⟩ = some (.string (bs u)) ∧ w'.cell? ⟨w.heap.size + 2, 0, none⟩ = some (.func (.func 116) #[] #[.pointer (some ⟨w.heap.size, 0, none⟩), .pointer (some ⟨w.heap.size + 1, 0, none⟩)]) ∧ w'.cell? ⟨b, 3, none⟩ = some (.slice A nd.l.length c)) := Hid.mk (fun w' hm hk =>
    ⟨(hx0.same hk (by simp; omega)).cell 0, (hx1.same hk (by simp; omega)).cell 0, (hx2.same hk (by simp; omega)).cell 0, hm.cell hc3⟩)
  have HH := Hid.mk (And.intro hM3 (And.intro hA3 hK3))
  clear hx0 hx1 hx2 hM3 hA3 hK3 hc1 hc3
  have b0 : (nd.op == 0) = false := by rw [hop]; rfl
  have b1 : (nd.op == 1) = false := by rw [hop]; rfl
  have b2 : (nd.op == 2) = true := by rw [hop]; rfl
  have HX : Hid ((u == []) = ev nd u) := Hid.mk (by rw [HE'.out, hop]; rfl)
  clear hop
  by_cases hu0 : u = []
  · have h1 : (u == []) = true := by rw [hu0]; rfl
    have h2 : u.isEmpty = true := by rw [hu0]; rfl
    rw [h1] at HX
    clear hu0
    go_wp2_with fail
    go_ret
    exact ⟨ret_bool HX.out, HH.out.1, HH.out.2.1, HH.out.2.2⟩
  · have h1 : (u == []) = false := by simpa using hu0
    have h2 : u.isEmpty = false := by simpa using hu0
    rw [h1] at HX
    clear hu0
    go_wp2_with fail
    go_ret
    exact ⟨ret_bool HX.out, HH.out.1, HH.out.2.1, HH.out.2.2⟩
set_option maxRecDepth 100000 in
set_option maxHeartbeats 8000000 in
theorem ask_op3 {M : Heap} {ga gm L b c : Nat} {V : Nat → Bs → Bool} {nd : Nd} {A : Option Addr} {bj : Nat → Nat} (hL : L ≤ 1000) (hb : M b = some (.cells #[.int .i64 (nd.num : Nat), .int .i64 nd.op, .string (bs nd.s), .slice A nd.l.length c] 118 (0, 0)))
    (hrow : ∀ j, (h : j < nd.l.length) → ∃ bb o, A = some ⟨bb, o, none⟩ ∧ cellM M ⟨bb, o + j, none⟩ = some (.pointer (some ⟨bj j, 0, none⟩))) (hl : nd.l.length ≤ 1000000)
    (hk : ∀ j, (h : j < nd.l.length) → HSp 38 M ga gm V nd.l[j] (bj j) L) (hop : nd.op = 3) (hlen : True) : HSp 78 M ga gm V nd b L := by
  intro u w hu hM hA
  have hz := bs_size u
  have hzt := bs_toList u
  obtain ⟨hga, hgm⟩ := hA.lt
  have hc1 : cellM M ⟨b, 1, none⟩ = some (.int .i64 nd.op) := by simp [cellM, hb]
  have hc3 : cellM M ⟨b, 3, none⟩ = some (.slice A nd.l.length c) := by simp [cellM, hb]
  have HE' := Hid.mk (ev_eq nd)
  obtain ⟨hx0, hx1⟩ := two_boxesH hM #[.pointer (some ⟨ga, 0, none⟩)] #[.string (bs u)] 64 9
  have hM2 := (hM.alloc (.cells #[.pointer (some ⟨ga, 0, none⟩)] 64)).alloc (.cells #[.string (bs u)] 9)
  have hx2 := Box.new hM2 #[.func (.func 116) #[] #[.pointer (some ⟨w.heap.size, 0, none⟩), .pointer (some ⟨w.heap.size + 1, 0, none⟩)]] 165
  have hss : ((w.alloc (.cells #[.pointer (some ⟨ga, 0, none⟩)] 64)).alloc (.cells #[.string (bs u)] 9)).heap.size = w.heap.size + 2 := by simp
  rw [hss] at hx2
  have hx0 := hx0.alloc (.cells #[.func (.func 116) #[] #[.pointer (some ⟨w.heap.size, 0, none⟩), .pointer (some ⟨w.heap.size + 1, 0, none⟩)]] 165)
  have hx1 := hx1.alloc (.cells #[.func (.func 116) #[] #[.pointer (some ⟨w.heap.size, 0, none⟩), .pointer (some ⟨w.heap.size + 1, 0, none⟩)]] 165)
  have hM3 := hM2.alloc (.cells #[.func (.func 116) #[] #[.pointer (some ⟨w.heap.size, 0, none⟩), .pointer (some ⟨w.heap.size + 1, 0, none⟩)]] 165)
  have hA3 := ((hA.alloc (.cells #[.pointer (some ⟨ga, 0, none⟩)] 64)).alloc (.cells #[.string (bs u)] 9)).alloc (.cells #[.func (.func 116) #[] #[.pointer (some ⟨w.heap.size, 0, none⟩), .pointer (some ⟨w.heap.size + 1, 0, none⟩)]] 165)
  have hK3 := (((Kp.refl [gm] w).alloc (.cells #[.pointer (some ⟨ga, 0, none⟩)] 64)).alloc (.cells #[.string (bs u)] 9)).alloc (.cells #[.func (.func 116) #[] #[.pointer (some ⟨w.heap.size, 0, none⟩), .pointer (some ⟨w.heap.size + 1, 0, none⟩)]] 165)
  clear hM2 hss
  have HR := Hid.mk hrow
  have HK := Hid.mk hk
  have HB := Hid.mk hb
  clear hrow hk hb
  go_enter Tryz.func78, Tryz.ntmps78
  go_upto_region 2 with fail
  generalize ((w.alloc (.cells #[.pointer (some ⟨ga, 0, none⟩)] 64)).alloc (.cells #[.string (bs u)] 9)).alloc (.cells #[.func (.func 116) #[] #[.pointer (some ⟨w.heap.size, 0, none⟩), .pointer (some ⟨w.heap.size + 1, 0, none⟩)]] 165) = w3 at *
  have q0 : w3.cell? ⟨w.heap.size, 0, none⟩ = some (.pointer (some ⟨ga, 0, none⟩)) := hx0.cell 0
  have q1 : w3.cell? ⟨w.heap.size + 1, 0, none⟩ = some (.string (bs u)) := hx1.cell 0
  have q5 : w3.cell? ⟨w.heap.size + 2, 0, none⟩ = some (.func (.func 116) #[] #[.pointer (some ⟨w.heap.size, 0, none⟩), .pointer (some ⟨w.heap.size + 1, 0, none⟩)]) := hx2.cell 0
  have q2 := hM3.cell hc1
  have q4 := hM3.cell hc3
  have HL0 : Hid (∀ w', Mem w' M → Kp [gm] w3 w' → w'.cell? ⟨w.heap.size, 0, none⟩ = some (.pointer (some ⟨ga, 0, none⟩)) ∧ w'.cell? ⟨w.heap.size + 1, 0, none⟩ = some (.string (bs u)) ∧ w'.cell? ⟨w.heap.size + 2, 0, none⟩ = some (.func (.func 116) #[] #[.pointer (some ⟨w.heap.size, 0, none⟩), .pointer (some ⟨w.heap.size + 1, 0, none⟩)]) ∧ w'.cell? ⟨b, 3, none⟩ = some (.slice A nd.l.length c)) := Hid.mk (fun w' hm hk =>
    ⟨(hx0.same hk (by simp; omega)).cell 0, (hx1.same hk (by simp; omega)).cell 0, (hx2.same hk (by simp; omega)).cell 0, hm.cell hc3⟩)
  have HH := Hid.mk (And.intro hM3 (And.intro hA3 hK3))
  clear hx0 hx1 hx2 hM3 hA3 hK3 hc1 hc3
  have b0 : (nd.op == 0) = false := by rw [hop]; rfl
  have b1 : (nd.op == 1) = false := by rw [hop]; rfl
  have b2 : (nd.op == 2) = false := by rw [hop]; rfl
  have b4 : (nd.op == 4) = false := by rw [hop]; rfl
  have b5 : (nd.op == 5) = false := by rw [hop]; rfl
  have b6 : (nd.op == 6) = false := by rw [hop]; rfl
  have b7 : (nd.op == 7) = false := by rw [hop]; rfl
  have b8 : (nd.op == 8) = false := by rw [hop]; rfl
  have b9 : (nd.op == 9) = false := by rw [hop]; rfl
  have b10 : (nd.op == 10) = false := by rw [hop]; rfl
  have b11 : (nd.op == 11) = false := by rw [hop]; rfl
  have b12 : (nd.op == 12) = false := by rw [hop]; rfl
  have b14 : (nd.op == 14) = false := by rw [hop]; rfl
  have b13 : (nd.op == 13) = false := by rw [hop]; rfl
  have b15 : (nd.op == 15) = false := by rw [hop]; rfl
  have HX : Hid (false = ev nd u) := Hid.mk (by rw [HE'.out, hop]; rfl)
  clear hop
  go_wp2_with fail
  go_ret
  exact ⟨ret_bool HX.out, HH.out.1, HH.out.2.1, HH.out.2.2⟩
set_option maxRecDepth 100000 in
set_option maxHeartbeats 8000000 in
theorem ask_op8 {M : Heap} {ga gm L b c : Nat} {V : Nat → Bs → Bool} {nd : Nd} {A : Option Addr} {bj : Nat → Nat} (hL : L ≤ 1000) (hb : M b = some (.cells #[.int .i64 (nd.num : Nat), .int .i64 nd.op, .string (bs nd.s), .slice A nd.l.length c] 118 (0, 0)))
    (hrow : ∀ j, (h : j < nd.l.length) → ∃ bb o, A = some ⟨bb, o, none⟩ ∧ cellM M ⟨bb, o + j, none⟩ = some (.pointer (some ⟨bj j, 0, none⟩))) (hl : nd.l.length ≤ 1000000)
    (hk : ∀ j, (h : j < nd.l.length) → HSp 38 M ga gm V nd.l[j] (bj j) L) (hop : nd.op = 8) (hlen : nd.l.length = 1) : HSp 78 M ga gm V nd b L := by
  intro u w hu hM hA
  have hz := bs_size u
  have hzt := bs_toList u
  obtain ⟨hga, hgm⟩ := hA.lt
  have hc1 : cellM M ⟨b, 1, none⟩ = some (.int .i64 nd.op) := by simp [cellM, hb]
  have hc3 : cellM M ⟨b, 3, none⟩ = some (.slice A nd.l.length c) := by simp [cellM, hb]
  have HE' := Hid.mk (ev_eq nd)
  obtain ⟨hx0, hx1⟩ := two_boxesH hM #[.pointer (some ⟨ga, 0, none⟩)] #[.string (bs u)] 64 9
  have hM2 := (hM.alloc (.cells #[.pointer (some ⟨ga, 0, none⟩)] 64)).alloc (.cells #[.string (bs u)] 9)
  have hx2 := Box.new hM2 #[.func (.func 116) #[] #[.pointer (some ⟨w.heap.size, 0, none⟩), .pointer (some ⟨w.heap.size + 1, 0, none⟩)]] 165
  have hss : ((w.alloc (.cells #[.pointer (some ⟨ga, 0, none⟩)] 64)).alloc (.cells #[.string (bs u)] 9)).heap.size = w.heap.size + 2 := by simp
  rw [hss] at hx2
  have hx0 := hx0.alloc (.cells #[.func (.func 116) #[] #[.pointer (some ⟨w.heap.size, 0, none⟩), .pointer (some ⟨w.heap.size + 1, 0, none⟩)]] 165)
  have hx1 := hx1.alloc (.cells #[.func (.func 116) #[] #[.pointer (some ⟨w.heap.size, 0, none⟩), .pointer (some ⟨w.heap.size + 1, 0, none⟩)]] 165)
  have hM3 := hM2.alloc (.cells #[.func (.func 116) #[] #[.pointer (some ⟨w.heap.size, 0, none⟩), .pointer (some ⟨w.heap.size + 1, 0, none⟩)]] 165)
  have hA3 := ((hA.alloc (.cells #[.pointer (some ⟨ga, 0, none⟩)] 64)).alloc (.cells #[.string (bs u)] 9)).alloc (.cells #[.func (.func 116) #[] #[.pointer (some ⟨w.heap.size, 0, none⟩), .pointer (some ⟨w.heap.size + 1, 0, none⟩)]] 165)
  have hK3 := (((Kp.refl [gm] w).alloc (.cells #[.pointer (some ⟨ga, 0, none⟩)] 64)).alloc (.cells #[.string (bs u)] 9)).alloc (.cells #[.func (.func 116) #[] #[.pointer (some ⟨w.heap.size, 0, none⟩), .pointer (some ⟨w.heap.size + 1, 0, none⟩)]] 165)
  clear hM2 hss
  have HR := Hid.mk hrow
  have HK := Hid.mk hk
  have HB := Hid.mk hb
  clear hrow hk hb
  go_enter Tryz.func78, Tryz.ntmps78
  go_upto_region 2 with fail
  generalize ((w.alloc (.cells #[.pointer (some ⟨ga, 0, none⟩)] 64)).alloc (.cells #[.string (bs u)] 9)).alloc (.cells #[.func (.func 116) #[] #[.pointer (some ⟨w.heap.size, 0, none⟩), .pointer (some ⟨w.heap.size + 1, 0, none⟩)]] 165) = w3 at *
  have q0 : w3.cell? ⟨w.heap.size, 0, none⟩ = some (.pointer (some ⟨ga, 0, none⟩)) := hx0.cell 0
  have q1 : w3.cell? ⟨w.heap.size + 1, 0, none⟩ = some (.string (bs u)) := hx1.cell 0
  have q5 : w3.cell? ⟨w.heap.size + 2, 0, none⟩ = some (.func (.func 116) #[] #[.pointer (some ⟨w.heap.size, 0, none⟩), .pointer (some ⟨w.heap.size + 1, 0, none⟩)]) := hx2.cell 0
  have q2 := hM3.cell hc1
  have q4 := hM3.cell hc3
  have HL0 : Hid (∀ w', Mem w' M → Kp [gm] w3 w' → w'.cell? ⟨w.heap.size, 0, none⟩ = some (.pointer (some ⟨ga, 0, none⟩)) ∧ w'.cell? ⟨w.heap.size + 1, 0, none⟩ = some (.string (bs u)) ∧ w'.cell? ⟨w.heap.size + 2, 0, none⟩ = some (.func (.func 116) #[] #[.pointer (some ⟨w.heap.size, 0, none⟩), .pointer (some ⟨w.heap.size + 1, 0, none⟩)]) ∧ w'.cell? ⟨b, 3, none⟩ = some (.slice A nd.l.length c)) := Hid.mk (fun w' hm hk =>
    ⟨(hx0.same hk (by simp; omega)).cell 0, (hx1.same hk (by simp; omega)).cell 0, (hx2.same hk (by simp; omega)).cell 0, hm.cell hc3⟩)
  have HH := Hid.mk (And.intro hM3 (And.intro hA3 hK3))
  clear hx0 hx1 hx2 hM3 hA3 hK3 hc1 hc3
  have b0 : (nd.op == 0) = false := by rw [hop]; rfl
  have b1 : (nd.op == 1) = false := by rw [hop]; rfl
  have b2 : (nd.op == 2) = false := by rw [hop]; rfl
  have b4 : (nd.op == 4) = false := by rw [hop]; rfl
  have b5 : (nd.op == 5) = false := by rw [hop]; rfl
  have b6 : (nd.op == 6) = false := by rw [hop]; rfl
  have b7 : (nd.op == 7) = false := by rw [hop]; rfl
  have b8 : (nd.op == 8) = true := by rw [hop]; rfl
  obtain ⟨bb, o, rfl, k0⟩ := HR.out 0 (by omega)
  rw [Nat.add_zero] at k0
  have y0 := HH.out.1.cell k0
  have hkd : Kp [gm] w3 w3.drew := (Kp.refl [gm] w3).drew
  have hl0 : (0 : Int) < (nd.l.length : Int) := by omega
  have HX : Hid (starB (ev (nd.l[0]'(by omega))) u = ev nd u) := Hid.mk (by
    rw [HE'.out, hop]
    show _ = starB (nth (evs nd.l) 0) u
    rw [nth_ev (by omega)])
  have HC := Hid.mk (star_calls hL (HK.out 0 (by omega)) u w3.drew hu HH.out.1.drew (HH.out.2.1.kp ((Kp.refl [] _).drew) (by simp) (by simp)))
  clear hop
  go_upto_region 18 with fail
  go_region_held3 (fun w' => w'.cell? ⟨w.heap.size, 0, none⟩ = some (.pointer (some ⟨ga, 0, none⟩)) ∧ w'.cell? ⟨w.heap.size + 1, 0, none⟩ = some (.string (bs u)) ∧ w'.cell? ⟨w.heap.size + 2, 0, none⟩ = some (.func (.func 116) #[] #[.pointer (some ⟨w.heap.size, 0, none⟩), .pointer (some ⟨w.heap.size + 1, 0, none⟩)]) ∧ w'.cell? ⟨b, 3, none⟩ = some (.slice (some ⟨bb, o, none⟩) nd.l.length c) ∧ w'.cell? ⟨bb, o, none⟩ = some (.pointer (some ⟨bj 0, 0, none⟩))) (go_keep) (first | (go_at_call 120; (with_reducible refine (HC.out).mono ?_); rintro e w5 ⟨rfl, hM5, hA5, hk5⟩; have hk6 := Kp.trans (by assumption) hk5; have HZ := Hid.mk (And.intro hM5 (And.intro hA5 (HH.out.2.2.trans hk6))); obtain ⟨z0, z1, z2, z3⟩ := HL0.out _ hM5 hk6; have y0 := HZ.out.1.cell k0; clear hM5 hA5 hk5))
  go_wp2_with fail
  go_ret
  exact ⟨ret_bool HX.out, HZ.out.1, HZ.out.2.1, HZ.out.2.2⟩
set_option maxRecDepth 100000 in
set_option maxHeartbeats 8000000 in
theorem ask_op11 {M : Heap} {ga gm L b c : Nat} {V : Nat → Bs → Bool} {nd : Nd} {A : Option Addr} {bj : Nat → Nat} (hL : L ≤ 1000) (hb : M b = some (.cells #[.int .i64 (nd.num : Nat), .int .i64 nd.op, .string (bs nd.s), .slice A nd.l.length c] 118 (0, 0)))
    (hrow : ∀ j, (h : j < nd.l.length) → ∃ bb o, A = some ⟨bb, o, none⟩ ∧ cellM M ⟨bb, o + j, none⟩ = some (.pointer (some ⟨bj j, 0, none⟩))) (hl : nd.l.length ≤ 1000000)
    (hk : ∀ j, (h : j < nd.l.length) → HSp 38 M ga gm V nd.l[j] (bj j) L) (hop : nd.op = 11) (hlen : nd.l.length = 1) : HSp 78 M ga gm V nd b L := by
  intro u w hu hM hA
  have hz := bs_size u
  have hzt := bs_toList u
  obtain ⟨hga, hgm⟩ := hA.lt
  have hc1 : cellM M ⟨b, 1, none⟩ = some (.int .i64 nd.op) := by simp [cellM, hb]
  have hc3 : cellM M ⟨b, 3, none⟩ = some (.slice A nd.l.length c) := by simp [cellM, hb]
  have HE' := Hid.mk (ev_eq nd)
  obtain ⟨hx0, hx1⟩ := two_boxesH hM #[.pointer (some ⟨ga, 0, none⟩)] #[.string (bs u)] 64 9
  have hM2 := (hM.alloc (.cells #[.pointer (some ⟨ga, 0, none⟩)] 64)).alloc (.cells #[.string (bs u)] 9)
  have hx2 := Box.new hM2 #[.func (.func 116) #[] #[.pointer (some ⟨w.heap.size, 0, none⟩), .pointer (some ⟨w.heap.size + 1, 0, none⟩)]] 165
  have hss : ((w.alloc (.cells #[.pointer (some ⟨ga, 0, none⟩)] 64)).alloc (.cells #[.string (bs u)] 9)).heap.size = w.heap.size + 2 := by simp
  rw [hss] at hx2
  have hx0 := hx0.alloc (.cells #[.func (.func 116) #[] #[.pointer (some ⟨w.heap.size, 0, none⟩), .pointer (some ⟨w.heap.size + 1, 0, none⟩)]] 165)
  have hx1 := hx1.alloc (.cells #[.func (.func 116) #[] #[.pointer (some ⟨w.heap.size, 0, none⟩), .pointer (some ⟨w.heap.size + 1, 0, none⟩)]] 165)
  have hM3 := hM2.alloc (.cells #[.func (.func 116) #[] #[.pointer (some ⟨w.heap.size, 0, none⟩), .pointer (some ⟨w.heap.size + 1, 0, none⟩)]] 165)
  have hA3 := ((hA.alloc (.cells #[.pointer (some ⟨ga, 0, none⟩)] 64)).alloc (.cells #[.string (bs u)] 9)).alloc (.cells #[.func (.func 116) #[] #[.pointer (some ⟨w.heap.size, 0, none⟩), .pointer (some ⟨w.heap.size + 1, 0, none⟩)]] 165)
  have hK3 := (((Kp.refl [gm] w).alloc (.cells #[.pointer (some ⟨ga, 0, none⟩)] 64)).alloc (.cells #[.string (bs u)] 9)).alloc (.cells #[.func (.func 116) #[] #[.pointer (some ⟨w.heap.size, 0, none⟩), .pointer (some ⟨w.heap.size + 1, 0, none⟩)]] 165)
  clear hM2 hss
  have HR := Hid.mk hrow
  have HK := Hid.mk hk
  have HB := Hid.mk hb
  clear hrow hk hb
  go_enter Tryz.func78, Tryz.ntmps78
  go_upto_region 2 with fail
  generalize ((w.alloc (.cells #[.pointer (some ⟨ga, 0, none⟩)] 64)).alloc (.cells #[.string (bs u)] 9)).alloc (.cells #[.func (.func 116) #[] #[.pointer (some ⟨w.heap.size, 0, none⟩), .pointer (some ⟨w.heap.size + 1, 0, none⟩)]] 165) = w3 at *
  have q0 : w3.cell? ⟨w.heap.size, 0, none⟩ = some (.pointer (some ⟨ga, 0, none⟩)) := hx0.cell 0
  have q1 : w3.cell? ⟨w.heap.size + 1, 0, none⟩ = some (.string (bs u)) := hx1.cell 0
  have q5 : w3.cell? ⟨w.heap.size + 2, 0, none⟩ = some (.func (.func 116) #[] #[.pointer (some ⟨w.heap.size, 0, none⟩), .pointer (some ⟨w.heap.size + 1, 0, none⟩)]) := hx2.cell 0
  have q2 := hM3.cell hc1
  have q4 := hM3.cell hc3
  have HL0 : Hid (∀ w', Mem w' M → Kp [gm] w3 w' → w'.cell? ⟨w.heap.size, 0, none⟩ = some (.pointer (some ⟨ga, 0, none⟩)) ∧ w'.cell? ⟨w.heap.size + 1, 0, none⟩ = some (.string (bs u)) ∧ w'.cell? ⟨w.heap.size + 2, 0, none⟩ = some (.func (.func 116) #[] #[.pointer (some ⟨w.heap.size, 0, none⟩), .pointer (some ⟨w.heap.size + 1, 0, none⟩)]) ∧ w'.cell? ⟨b, 3, none⟩ = some (.slice A nd.l.length c)) := Hid.mk (fun w' hm hk =>
    ⟨(hx0.same hk (by simp; omega)).cell 0, (hx1.same hk (by simp; omega)).cell 0, (hx2.same hk (by simp; omega)).cell 0, hm.cell hc3⟩)
  have HH := Hid.mk (And.intro hM3 (And.intro hA3 hK3))
  clear hx0 hx1 hx2 hM3 hA3 hK3 hc1 hc3
  have b0 : (nd.op == 0) = false := by rw [hop]; rfl
  have b1 : (nd.op == 1) = false := by rw [hop]; rfl
  have b2 : (nd.op == 2) = false := by rw [hop]; rfl
  have b4 : (nd.op == 4) = false := by rw [hop]; rfl
  have b5 : (nd.op == 5) = false := by rw [hop]; rfl
  have b6 : (nd.op == 6) = false := by rw [hop]; rfl
  have b7 : (nd.op == 7) = false := by rw [hop]; rfl
  have b8 : (nd.op == 8) = false := by rw [hop]; rfl
  have b9 : (nd.op == 9) = false := by rw [hop]; rfl
  have b10 : (nd.op == 10) = false := by rw [hop]; rfl
  have b11 : (nd.op == 11) = true := by rw [hop]; rfl
  obtain ⟨bb, o, rfl, k0⟩ := HR.out 0 (by omega)
  rw [Nat.add_zero] at k0
  have y0 := HH.out.1.cell k0
  have hkd : Kp [gm] w3 w3.drew := (Kp.refl [gm] w3).drew
  have hl0 : (0 : Int) < (nd.l.length : Int) := by omega
  have HX : Hid ((!ev (nd.l[0]'(by omega)) u) = ev nd u) := Hid.mk (by
    rw [HE'.out, hop]
    show _ = !nth (evs nd.l) 0 u
    rw [nth_ev (by omega)])
  have HC := Hid.mk (mask1_calls (HK.out 0 (by omega)) (p := w.heap.size) (q := w.heap.size + 1) (w := w3.drew) hu q0 q1 HH.out.1.drew (HH.out.2.1.kp ((Kp.refl [] _).drew) (by simp) (by simp)))
  have hcf : ∀ w', (callFunc 116 #[.pointer (some ⟨bj 0, 0, none⟩), .pointer (some ⟨w.heap.size, 0, none⟩), .pointer (some ⟨w.heap.size + 1, 0, none⟩)]).run Tryz.prog w' = .ok (.enter 116 #[.pointer (some ⟨bj 0, 0, none⟩), .pointer (some ⟨w.heap.size, 0, none⟩), .pointer (some ⟨w.heap.size + 1, 0, none⟩)]) w' := fun w' => by kernel_rfl
  clear hop
  go_upto_region 24 with fail
  go_region_held3 (fun w' => w'.cell? ⟨w.heap.size, 0, none⟩ = some (.pointer (some ⟨ga, 0, none⟩)) ∧ w'.cell? ⟨w.heap.size + 1, 0, none⟩ = some (.string (bs u)) ∧ w'.cell? ⟨w.heap.size + 2, 0, none⟩ = some (.func (.func 116) #[] #[.pointer (some ⟨w.heap.size, 0, none⟩), .pointer (some ⟨w.heap.size + 1, 0, none⟩)]) ∧ w'.cell? ⟨b, 3, none⟩ = some (.slice (some ⟨bb, o, none⟩) nd.l.length c) ∧ w'.cell? ⟨bb, o, none⟩ = some (.pointer (some ⟨bj 0, 0, none⟩))) (go_keep) (first | (go_at_call 116; (with_reducible refine (HC.out).mono ?_); rintro e w5 ⟨rfl, hM5, hA5, hk5⟩; have hk6 := Kp.trans (by assumption) hk5; have HZ := Hid.mk (And.intro hM5 (And.intro hA5 (HH.out.2.2.trans hk6))); obtain ⟨z0, z1, z2, z3⟩ := HL0.out _ hM5 hk6; have y0 := HZ.out.1.cell k0; clear hM5 hA5 hk5))
  go_wp2_with fail
  go_ret
  exact ⟨ret_bool HX.out, HZ.out.1, HZ.out.2.1, HZ.out.2.2⟩
end Go.Proofs.YtgdnhlckodhhgaaGreatDoor
