/-
  How heavy an expression is, by the law.
-/
import Derived.Test.YtgdnhlckodhhgaaGreatDoorJC
import Derived.Test.YtgdnhlckodhhgaaGreatDoorJR
import Derived.BigGuardPart
namespace Go.Proofs.YtgdnhlckodhhgaaGreatDoor
open Go.RowKit
set_option linter.unusedVariables false
set_option linter.unusedSimpArgs false
/-- A row of expressions. -/
def RowV (M : Heap) (A : Option Addr) (l : List E) : Prop := ∀ j, (hj : j < l.length) → ∃ b o A' c', A = some ⟨b, o, none⟩ ∧ cellM M ⟨b, o + j * 3, none⟩ = some (.int .i64 l[j].op) ∧ cellM M ⟨b, o + j * 3 + 1, none⟩ = some (.string (bs l[j].s)) ∧ cellM M ⟨b, o + j * 3 + 2, none⟩ = some (.slice A' l[j].l.length c') ∧ ExV M l[j] A' c'
theorem RowV.place {M : Heap} {A : Option Addr} {l : List E} (h : RowV M A l) (hl : 0 < l.length) : ∃ b o, A = some ⟨b, o, none⟩ := by
  obtain ⟨b, o, _, _, h1, _⟩ := h 0 hl
  exact ⟨b, o, h1⟩
theorem RowV.at_ {M : Heap} {l : List E} {b o : Nat} (h : RowV M (some ⟨b, o, none⟩) l) (j : Nat) (hj : j < l.length) : ∃ A' c', cellM M ⟨b, o + j * 3 + 1, none⟩ = some (.string (bs l[j].s)) ∧ cellM M ⟨b, o + j * 3 + 2, none⟩ = some (.slice A' l[j].l.length c') ∧ ExV M l[j] A' c' := by
  obtain ⟨b', o', A', c', h1, h2, h3, h4, h5⟩ := h j hj
  injection h1 with h1
  injection h1 with h1 h6
  subst h1; subst h6
  exact ⟨A', c', h3, h4, h5⟩
set_option maxRecDepth 100000 in
set_option maxHeartbeats 2000000 in
theorem heavy_calls (n : Nat) : ∀ (l : List E) (A : Option Addr) (c : Nat) (w : World) (M : Heap), RowV M A l → Mem w M → masses l ≤ n → n ≤ 1099511627776 →
    Calls Tryz.prog 29 #[.slice A l.length c] w fun en w' => en = .returned (.int .i64 (hvl l l.length : Nat)) ∧ Kp [] w w' := by
  induction n using Nat.strongRecOn with
  | _ n ih =>
    intro l A c w M h hM hn hbig
    have hll := lmass l
    by_cases h0 : l.length = 0
    · have hl' : l = [] := List.length_eq_zero_iff.1 h0
      have HS := Hid.mk (show hvl l l.length = 0 by rw [hl']; rfl)
      rw [h0] at HS
      rw [h0]
      clear hl' h0 h ih hll hn
      go_enter Tryz.func29, Tryz.ntmps29
      go_wp2_with fail
      refine wp_loop_rounds 1 ?_
      rw [rounds_succ]
      go_wp2_with fail
      go_ret
      exact ⟨ret_int (by rw [HS.out]; rfl), Kp.refl _ _⟩
    · obtain ⟨b, o, rfl⟩ := h.place (by omega)
      have HE := Hid.mk h
      clear h
      go_enter Tryz.func29, Tryz.ntmps29
      go_wp2_with fail
      go_loopg [3, 4] l.length (fun k v3 v4 wr => ∃ j x : Nat, j ≤ l.length ∧ k = l.length - j ∧ v4 = .int .i64 (j : Nat) ∧ v3 = .int .i64 (x : Nat) ∧ x + masses (l.drop j) ≤ l.length + masses l ∧ Hid (hvl (l.drop j) x = hvl l l.length) ∧ Mem wr M ∧ Kp [] w wr)
      case atStart => exact ⟨0, l.length, Nat.zero_le _, by simp, rfl, rfl, by simp, Hid.mk (by simp), hM, Kp.refl _ _⟩
      case round =>
        obtain ⟨j, x, hj, hk, rfl, rfl, hx, HV, hM', hK⟩ := hrel
        by_cases hlt : j < l.length
        · by_cases h16 : x < 16384
          · obtain ⟨A', c', k1, k2, hxe⟩ := HE.out.at_ j hlt
            have q1 := hM'.cell k1
            have q2 := hM'.cell k2
            have hmj := masses_drop hlt
            have hme := E.mass_eq l[j]
            have hmv := hv_mass l[j]
            have hve := hv_eq l[j]
            have HVS := Hid.mk (hvl_step hlt h16)
            have h16' : (x : Int) < 16384 := by omega
            have hsz := bs_size l[j].s
            have hml := mass_mem (List.getElem_mem hlt)
            have HIH := Hid.mk (ih (masses l[j].l) (by omega) l[j].l A' c' wr.drew M hxe.row.2 hM'.drew (Nat.le_refl _) (by omega))
            have HH := Hid.mk (And.intro k1 (And.intro k2 (And.intro hM' hK)))
            generalize hhe : hvl l[j].l l[j].l.length = y at *
            generalize hse : l[j].s.length = z at *
            have hyz : z + y ≤ 1099511627776 := by omega
            have hxyz : x + (z + y) ≤ 2199023255552 := by omega
            have HVE := Hid.mk hve
            clear k1 k2 hxe hM' hK ih hhe hse hve
            go_upto_region 5 with fail
            go_region_held3 (fun w' => w'.cell? ⟨b, o + j * 3 + 1, none⟩ = some (.string (bs l[j].s)) ∧ w'.cell? ⟨b, o + j * 3 + 2, none⟩ = some (.slice A' l[j].l.length c')) (go_keep) (first | (go_at_call 29; refine HIH.out.mono ?_; rintro e w2 ⟨rfl, hk2⟩; have HZ := Hid.mk (And.intro (HH.out.2.2.1.drew.kp hk2 (by simp)) (HH.out.2.2.2.drew.trans hk2)); have z0 := HZ.out.1.cell HH.out.1; have z1 := HZ.out.1.cell HH.out.2.1; clear hk2))
            go_wp2_with fail
            go_roundg (l.length - (j + 1))
            case measure => omega
            case rel =>
              have hve := HVE.out
              refine ⟨j + 1, x + (z + y), by omega, rfl, by go_num, by rw [IntWalk.i64_in ((z : Int) + (y : Int)) (by omega), IntWalk.i64_in ((x : Int) + ((z : Int) + (y : Int))) (by omega)]; go_num, by omega, Hid.mk (by rw [← HV.out, HVS.out, HVE.out]), HZ.out.1, HZ.out.2⟩
          · have h16' : ¬ (x : Int) < 16384 := by omega
            have HX := Hid.mk (HV.out.symm.trans (hvl_stop h16))
            clear h16
            go_wp2_with fail
            go_ret
            exact ⟨ret_int (by rw [HX.out]), hK⟩
        · obtain rfl : j = l.length := by omega
          have hlt' : ¬ ((l.length : Int) < (l.length : Int)) := by omega
          have HX := Hid.mk (show hvl l l.length = x by rw [← HV.out, List.drop_length]; rfl)
          go_wp2_with fail
          go_ret
          exact ⟨ret_int (by rw [HX.out]), hK⟩
theorem row_one {M : Heap} {b : Nat} {fr : Nat × Nat} {e : E} {A : Option Addr} {c : Nat} (hb : M b = some (.cells #[.int .i64 e.op, .string (bs e.s), .slice A e.l.length c] 24 fr)) (h : ExV M e A c) : RowV M (some ⟨b, 0, none⟩) [e] := fun j hj => by
  have hj0 : j = 0 := by simp at hj; exact hj
  subst hj0
  exact ⟨b, 0, A, c, rfl, by simp [cellM, hb], by simp [cellM, hb], by simp [cellM, hb], h⟩
noncomputable def overP (e : E) : Bool := decide (16384 ≤ hvl [e] 1)
set_option maxRecDepth 100000 in
set_option maxHeartbeats 2000000 in
theorem over_calls {e : E} {A : Option Addr} {c : Nat} {M : Heap} (h : ExV M e A c) (hn : e.mass ≤ 1099511627776) (w : World) (hM : Mem w M) :
    Calls Tryz.prog 7 #[.agg #[.int .i64 e.op, .string (bs e.s), .slice A e.l.length c]] w fun en w' => en = .returned (.bool (overP e)) ∧ Kp [] w w' := by
  have hb := Box.new hM #[.int .i64 e.op, .string (bs e.s), .slice A e.l.length c] 24
  have hM1 := hM.alloc (.cells #[.int .i64 e.op, .string (bs e.s), .slice A e.l.length c] 24)
  have hM2 := (hM1.alloc (.cells #[.int .i64 e.op, .string (bs e.s), .slice A e.l.length c] 24)).put (heap_alloc_new _ (.cells #[.int .i64 e.op, .string (bs e.s), .slice A e.l.length c] 24))
  have hE := Ext.put (n := w.heap.size) (o := .cells #[.int .i64 e.op, .string (bs e.s), .slice A e.l.length c] 24) (by simp) hM1.new
  have HH := Hid.mk (heavy_calls e.mass [e] (some ⟨(w.alloc (.cells #[.int .i64 e.op, .string (bs e.s), .slice A e.l.length c] 24)).heap.size, 0, none⟩) 1 _ _ (row_one (fr := (0, 0)) Heap.put_same (h.ext hE)) hM2 (by simp [masses]) hn)
  simp only [World.size_alloc] at HH
  obtain ⟨⟨p0, p1, p2⟩, _, _, _⟩ := hb.three
  have HK := Hid.mk (((Kp.refl [] w).alloc (.cells #[.int .i64 e.op, .string (bs e.s), .slice A e.l.length c] 24)).alloc (.cells #[.int .i64 e.op, .string (bs e.s), .slice A e.l.length c] 24))
  have HO := Hid.mk (show overP e = decide (16384 ≤ hvl [e] 1) from rfl)
  have hbd := hvl_mass [e] 1
  simp only [masses, List.length_cons, List.length_nil] at hbd
  clear hb hM1 hM2 hE h
  go_enter Tryz.func7, Tryz.ntmps7
  go_wp2_with fail
  refine HH.out.mono ?_
  rintro en w2 ⟨rfl, hk2⟩
  have HZ := Hid.mk (HK.out.trans hk2)
  clear hk2
  go_wp2_with fail
  go_ret
  exact ⟨ret_bool (by rw [HO.out, Bool.eq_iff_iff, decide_eq_true_iff, decide_eq_true_iff]; omega), HZ.out⟩
end Go.Proofs.YtgdnhlckodhhgaaGreatDoor
