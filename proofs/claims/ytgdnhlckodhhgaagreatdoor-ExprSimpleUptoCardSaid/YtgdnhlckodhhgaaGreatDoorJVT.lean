/-
  expr.Simple: until nothing changes any more.
-/
import Derived.Test.YtgdnhlckodhhgaaGreatDoorJV54
import Derived.Test.YtgdnhlckodhhgaaGreatDoorJC
import Derived.Test.YtgdnhlckodhhgaaGreatDoorJVS
import Derived.Test.YtgdnhlckodhhgaaGreatDoorJVO
namespace Go.Proofs.YtgdnhlckodhhgaaGreatDoor
open Go.RowKit
set_option linter.unusedVariables false
set_option linter.unusedSimpArgs false
/-- How Simple ends on what is right. -/
def SimEnd (M : Heap) (e : E) (w : World) (en : Ending) (w' : World) : Prop := ∃ s A c M', en = .returned (.tuple #[.agg #[.int .i64 s.op, .string (bs s.s), .slice A s.l.length c], .int .i64 0]) ∧ RedOk e s ∧ s.red = s ∧ (e.red = e → s = e) ∧ ExV M' s A c ∧ Mem w' M' ∧ Ext w.heap.size M M' ∧ Kp [] w w'
/-- While it goes on. -/
def LI (w : World) (M : Heap) (e x : E) (wr : World) : Prop := ∃ A c M', RedOk e x ∧ (e.red = e → x = e) ∧ ExV M' x A c ∧ Mem wr M' ∧ Ext w.heap.size M M' ∧ Box wr M' w.heap.size #[.int .i64 x.op, .string (bs x.s), .slice A x.l.length c] 24 ∧ Box wr M' (w.heap.size + 1) #[.int .i64 0, .string ⟨#[]⟩, .slice none 0 0] 24 ∧ Kp [] w wr
set_option maxRecDepth 100000 in
set_option maxHeartbeats 4000000 in
theorem Simple_good {e : E} {A : Option Addr} {c : Nat} {M : Heap} (hx : ExV M e A c) (hr : e.right = true) (hv : verdict e = 0) (hsz : e.size ≤ 1000) (hwd : e.wide ≤ 1099511627776) (w : World) (hM : Mem w M) :
    Calls Tryz.prog 12 #[.agg #[.int .i64 e.op, .string (bs e.s), .slice A e.l.length c]] w (SimEnd M e w) := by
  obtain ⟨hb0, hb1⟩ := two_boxesF hM #[.int .i64 e.op, .string (bs e.s), .slice A e.l.length c] #[.int .i64 0, .string ⟨#[]⟩, .slice none 0 0] 24 24
  have hM2 := (hM.alloc (.cells #[.int .i64 e.op, .string (bs e.s), .slice A e.l.length c] 24)).alloc (.cells #[.int .i64 0, .string ⟨#[]⟩, .slice none 0 0] 24)
  have hk : Kp [] w ((w.alloc (.cells #[.int .i64 e.op, .string (bs e.s), .slice A e.l.length c] 24)).alloc (.cells #[.int .i64 0, .string ⟨#[]⟩, .slice none 0 0] 24)) := ((Kp.refl [] w).alloc _).alloc _
  have HV := Hid.mk (Validate_calls e A c _ M hx hM2 (by omega) hwd)
  rw [hv] at HV
  have HL0 := Hid.mk (fun (w' : World) (k : Kp [] _ w') => (show LI w M e e w' from ⟨A, c, M, RedOk.refl hr, fun _ => rfl, hx, hM2.kp k (by simp), Ext.refl _ _, hb0.same k (by simp), hb1.same k (by simp), hk.trans k⟩))
  obtain ⟨⟨p0, p1, p2⟩, _, _, _⟩ := hb0.three
  clear hb0 hb1 hM2 hk hx hM hr hv
  go_enter Tryz.func12, Tryz.ntmps12
  go_wp2_with fail
  refine HV.out.mono ?_
  rintro en w1 ⟨rfl, hk1⟩
  have HL1 := Hid.mk (HL0.out _ hk1)
  clear HL0 hk1 p0 p1 p2
  go_wp2_with fail
  go_loopg [] e.size (fun kk wr => ∃ x : E, kk = x.size ∧ Hid (LI w M e x wr))
  case atStart => exact ⟨e, rfl, HL1⟩
  case round =>
    clear HL1
    obtain ⟨x, rfl, HL⟩ := hrel
    obtain ⟨A1, c1, M1, g1, g2, hx, hM, hE, hb0, hb1, hK⟩ := HL.out
    have hxs := g1.size
    have HS := Hid.mk (simpler_calls 1000 x A1 c1 wr M1 hx hM g1.right (by omega) (Nat.le_refl _))
    obtain ⟨⟨p0, p1, p2⟩, _, _, _⟩ := hb0.three
    have HH := Hid.mk (And.intro g1 (And.intro g2 (And.intro hx (And.intro hM (And.intro hE (And.intro hb0 (And.intro hb1 hK)))))))
    have hlw := hb1.lt
    clear g1 g2 hx hM hE hb0 hb1 hK
    go_wp2_with fail
    refine HS.out.mono ?_
    rintro en w2 ⟨A2, c2, M2, rfl, hx2, hM2, hE2, hk2⟩
    obtain ⟨g1, g2, hx, hM, hE, hb0, hb1, hK⟩ := HH.out
    have hro := red_ok x.size x (Nat.le_refl _) g1.right
    have hb5 := Box.new hM2 #[.int .i64 x.red.op, .string (bs x.red.s), .slice A2 x.red.l.length c2] 24
    have hk5 : Kp [] w2 (w2.alloc (.cells #[.int .i64 x.red.op, .string (bs x.red.s), .slice A2 x.red.l.length c2] 24)) := (Kp.refl _ _).alloc _
    have hb05 : Box (w2.alloc (.cells #[.int .i64 x.red.op, .string (bs x.red.s), .slice A2 x.red.l.length c2] 24)) M2 w.heap.size #[.int .i64 x.op, .string (bs x.s), .slice A1 x.l.length c1] 24 := ⟨((hb0.same hk2 (by simp)).same hk5 (by simp)).blk, hE2.no hb0.out (by omega)⟩
    have hb15 : Box (w2.alloc (.cells #[.int .i64 x.red.op, .string (bs x.red.s), .slice A2 x.red.l.length c2] 24)) M2 (w.heap.size + 1) #[.int .i64 0, .string ⟨#[]⟩, .slice none 0 0] 24 := ⟨((hb1.same hk2 (by simp)).same hk5 (by simp)).blk, hE2.no hb1.out (by omega)⟩
    have hM5 := hM2.kp hk5 (by simp)
    have HSM := Hid.mk (Same_calls x.red.size x.red x A2 A1 c2 c1 _ M2 hx2 (hx.ext hE2) hM5 (Nat.le_refl _) (by have := hro.size; omega))
    obtain ⟨⟨q0, q1, q2⟩, _, _, _⟩ := hb5.three
    obtain ⟨⟨p0, p1, p2⟩, _, _, _⟩ := hb05.three
    have HRO := Hid.mk hro
    have HG := Hid.mk (And.intro hx2 (And.intro hM5 (And.intro (hE.trans (hE2.low hK.size) (Nat.le_refl _)) (And.intro hb5 (And.intro hb05 (And.intro hb15 ((hK.trans hk2).trans hk5)))))))
    have hs2 : w.heap.size + 1 < w2.heap.size := Nat.lt_of_lt_of_le hlw hk2.size
    clear g1 g2 hx hM hE hb0 hb1 hK hx2 hM2 hE2 hk2 hb5 hk5 hb05 hb15 hM5 hro
    by_cases hsm : x.red = x
    · have hst : same x.red x = true := same_iff.2 hsm
      rw [hst] at HSM
      have HXX := Hid.mk hsm
      clear hst hsm
      go_wp2_with fail
      refine HSM.out.mono ?_
      rintro en w6 ⟨rfl, hk6⟩
      obtain ⟨hx2, hM5, hE5, hb5, hb05, hb15, hK5⟩ := HG.out
      obtain ⟨⟨q0, q1, q2⟩, _, _, _⟩ := (hb5.same hk6 (by simp)).three
      obtain ⟨⟨z0, z1, z2⟩, f0, f1, f2⟩ := (hb15.same hk6 (by simp)).three
      have HK6 := Hid.mk hk6
      clear hx2 hM5 hE5 hb5 hb05 hb15 hK5 hk6
      go_wp2_with fail
      obtain ⟨hx2, hM5, hE5, hb5, hb05, hb15, hK5⟩ := HG.out
      obtain ⟨g1, g2, hx, hM, hE, hb0, hb1, hK⟩ := HH.out
      have hbz := hb15.same HK6.out (by simp)
      obtain ⟨⟨r0, r1, r2⟩, _, _, _⟩ := (hbz.set3 (x' := .int .i64 x.red.op) (y' := .string (bs x.red.s)) (z' := .slice A2 x.red.l.length c2)).three
      have hk3 : Kp [w.heap.size + 1] w6 (((w6.setCell ⟨w.heap.size + 1, 0, none⟩ (.int .i64 x.red.op)).setCell ⟨w.heap.size + 1, 1, none⟩ (.string (bs x.red.s))).setCell ⟨w.heap.size + 1, 2, none⟩ (.slice A2 x.red.l.length c2)) := (Kp.refl _ _).set3 (.inl (by simp))
      refine bodyPost_ret (v := .tuple #[.agg #[.int .i64 x.red.op, .string (bs x.red.s), .slice A2 x.red.l.length c2], .int .i64 0]) (by simp [results, Tryz.results12, go_sem, r0, r1, r2]) rfl ?_
      exact ⟨x.red, A2, c2, M2, rfl, g1.trans HRO.out, by rw [HXX.out, HXX.out], fun h => by rw [HXX.out]; exact g2 h, hx2, (hM5.kp HK6.out (by simp)).kp hk3 (by simp [hbz.out]), hE5, (hK5.trans HK6.out).inner hk3 (fun y hy => .inr (by simp at hy; omega))⟩
    · have hst : same x.red x = false := by rw [Bool.eq_false_iff]; exact fun h => hsm (same_iff.1 h)
      rw [hst] at HSM
      have HLT : Hid (x.red.size < x.size) := Hid.mk (by
        have h1 := HRO.out.size
        by_cases h2 : x.red.size = x.size
        · exact absurd (HRO.out.same h2) hsm
        · omega)
      have HXX := Hid.mk hsm
      clear hst hsm
      go_wp2_with fail
      refine HSM.out.mono ?_
      rintro en w6 ⟨rfl, hk6⟩
      obtain ⟨hx2, hM5, hE5, hb5, hb05, hb15, hK5⟩ := HG.out
      obtain ⟨⟨q0, q1, q2⟩, _, _, _⟩ := (hb5.same hk6 (by simp)).three
      obtain ⟨⟨p0, p1, p2⟩, f0, f1, f2⟩ := (hb05.same hk6 (by simp)).three
      have HK6 := Hid.mk hk6
      clear hx2 hM5 hE5 hb5 hb05 hb15 hK5 hk6
      go_wp2_with fail
      go_roundg x.red.size
      case measure => exact HLT.out
      case rel =>
        obtain ⟨hx2, hM5, hE5, hb5, hb05, hb15, hK5⟩ := HG.out
        obtain ⟨g1, g2, hx, hM, hE, hb0, hb1, hK⟩ := HH.out
        have hbx := hb05.same HK6.out (by simp)
        have hbz := hb15.same HK6.out (by simp)
        have hk3 : Kp [w.heap.size] w6 (((w6.setCell ⟨w.heap.size, 0, none⟩ (.int .i64 x.red.op)).setCell ⟨w.heap.size, 1, none⟩ (.string (bs x.red.s))).setCell ⟨w.heap.size, 2, none⟩ (.slice A2 x.red.l.length c2)) := (Kp.refl _ _).set3 (.inl (by simp))
        refine ⟨x.red, rfl, Hid.mk ⟨A2, c2, M2, g1.trans HRO.out, fun h => ?_, hx2, (hM5.kp HK6.out (by simp)).kp hk3 (by simp [hbx.out]), hE5, hbx.set3, hbz.same hk3 (by simp), (hK5.trans HK6.out).inner hk3 (fun y hy => .inr (by simp at hy; omega))⟩⟩
        have e1 := g2 h
        subst e1
        exact absurd h HXX.out
/-- How Simple ends on what is wrong. -/
def SimBad (e : E) (w : World) (en : Ending) (w' : World) : Prop := en = .returned (.tuple #[.agg #[.int .i64 0, .string ⟨#[]⟩, .slice none 0 0], .int .i64 (verdict e)]) ∧ Kp [] w w'
set_option maxRecDepth 100000 in
set_option maxHeartbeats 4000000 in
theorem Simple_bad {e : E} {A : Option Addr} {c : Nat} {M : Heap} (hx : ExV M e A c) (hv : verdict e ≠ 0) (hsz : e.size ≤ 1099511627776) (hwd : e.wide ≤ 1099511627776) (w : World) (hM : Mem w M) :
    Calls Tryz.prog 12 #[.agg #[.int .i64 e.op, .string (bs e.s), .slice A e.l.length c]] w (SimBad e w) := by
  obtain ⟨hb0, hb1⟩ := two_boxesF hM #[.int .i64 e.op, .string (bs e.s), .slice A e.l.length c] #[.int .i64 0, .string ⟨#[]⟩, .slice none 0 0] 24 24
  have hM2 := (hM.alloc (.cells #[.int .i64 e.op, .string (bs e.s), .slice A e.l.length c] 24)).alloc (.cells #[.int .i64 0, .string ⟨#[]⟩, .slice none 0 0] 24)
  have hk : Kp [] w ((w.alloc (.cells #[.int .i64 e.op, .string (bs e.s), .slice A e.l.length c] 24)).alloc (.cells #[.int .i64 0, .string ⟨#[]⟩, .slice none 0 0] 24)) := ((Kp.refl [] w).alloc _).alloc _
  have HV := Hid.mk (Validate_calls e A c _ M hx hM2 hsz hwd)
  have HB := Hid.mk (And.intro hb1 hk)
  have hvb : (verdict e != 0) = true := by rw [bne_iff_ne]; exact hv
  obtain ⟨⟨p0, p1, p2⟩, _, _, _⟩ := hb0.three
  clear hb0 hb1 hM2 hk hx hM hv
  go_enter Tryz.func12, Tryz.ntmps12
  go_wp2_with fail
  refine HV.out.mono ?_
  rintro en w1 ⟨rfl, hk1⟩
  obtain ⟨⟨z0, z1, z2⟩, f0, f1, f2⟩ := (HB.out.1.same hk1 (by simp)).three
  have HK1 := Hid.mk hk1
  clear hk1 p0 p1 p2
  go_wp2_with fail
  have hbz := HB.out.1.same HK1.out (by simp)
  obtain ⟨⟨r0, r1, r2⟩, _, _, _⟩ := (hbz.set3 (x' := .int .i64 0) (y' := .string ⟨#[]⟩) (z' := .slice none 0 0)).three
  have hk3 : Kp [w.heap.size + 1] w1 (((w1.setCell ⟨w.heap.size + 1, 0, none⟩ (.int .i64 0)).setCell ⟨w.heap.size + 1, 1, none⟩ (.string ⟨#[]⟩)).setCell ⟨w.heap.size + 1, 2, none⟩ (.slice none 0 0)) := (Kp.refl _ _).set3 (.inl (by simp))
  refine bodyPost_ret (v := .tuple #[.agg #[.int .i64 0, .string ⟨#[]⟩, .slice none 0 0], .int .i64 (verdict e)]) (by simp [results, Tryz.results12, go_sem, r0, r1, r2]) rfl ?_
  exact ⟨rfl, (HB.out.2.trans HK1.out).inner hk3 (fun y hy => .inr (by simp at hy; omega))⟩
end Go.Proofs.YtgdnhlckodhhgaaGreatDoor

/-
  The law ExprSimple: it returns true.
-/
namespace Go.Proofs.YtgdnhlckodhhgaaGreatDoor
open Go.RowKit
set_option linter.unusedVariables false
set_option linter.unusedSimpArgs false
theorem wt_each (l : List Bs) : l.length ≤ wt l ∧ ∀ x ∈ l, x.length ≤ wt l := by
  induction l with
  | nil => simp [wt]
  | cons b l ih =>
    obtain ⟨h1, h2⟩ := ih
    refine ⟨by simp [wt] at h1 ⊢; omega, fun x hx => ?_⟩
    rcases List.mem_cons.1 hx with rfl | hx
    · simp [wt]; omega
    · have := h2 x hx; simp [wt] at this ⊢; omega
theorem WsM.ext {n : Nat} {M M' : Heap} {A : Option Addr} {ws : List Bs} (e : Ext n M M') (h : WsM M A ws) : WsM M' A ws := fun j hj => by
  obtain ⟨b, o, h1, h2⟩ := h j hj
  exact ⟨b, o, h1, cellM_ext e h2⟩
theorem WvM.ext {n : Nat} {M M' : Heap} {A : Option Addr} {ws : List Bs} (e : Ext n M M') (h : WvM M A ws) : WvM M' A ws := by
  rcases h with h | ⟨b, o, h1, h2⟩
  · exact .inl h
  · exact .inr ⟨b, o, h1, fun j hj => cellM_ext e (h2 j hj)⟩
set_option maxRecDepth 100000 in
set_option maxHeartbeats 8000000 in
theorem ExprSimple_calls {a : E} {A As Aw : Option Addr} {c cs cw : Nat} {M : Heap} {ss ws : List Bs} (ha : ExV M a A c) (hna : a.mass ≤ 1099511627776) (hss : WsM M As ss) (hcs : ss.length ≤ cs) (hws : WvM M Aw ws) (hcw : ws.length ≤ cw) (ht : wt ss + wt ws ≤ 1099511627776) (w : World) (hM : Mem w M) :
    Calls Tryz.prog 4 #[.agg #[.int .i64 a.op, .string (bs a.s), .slice A a.l.length c], .slice As ss.length cs, .slice Aw ws.length cw] w fun e w' => e = .returned (.bool true) ∧ Kp [] w w' := by
  have hs1 := wt_each ss
  have hw1 := wt_each ws
  have hsm := size_mass a
  have hwm := wide_mass a
  have HKn := Hid.mk known_calls
  have HB := Hid.mk (box_kept hM (.int .i64 a.op) (.string (bs a.s)) (.slice A a.l.length c))
  have HO := Hid.mk (fun w' (hM' : Mem w' M) => over_calls ha hna w' hM')
  have HL := Hid.mk (fun g cg w' (hM' : Mem w' M) => two_lists (c := cs) (d := cw) (g := g) (cg := cg) hss hws.ws ht w' hM')
  have HSB := Hid.mk (fun (hv : verdict a ≠ 0) w' (hM' : Mem w' M) => Simple_bad ha hv (by omega) (by omega) w' hM')
  have HSG := Hid.mk (fun (hv : verdict a = 0) w' (hM' : Mem w' M) => Simple_good ha (verdict_good hv).2.2 hv (by have := (verdict_good hv).1; omega) (by omega) w' hM')
  have HRV := Hid.mk (fun w' (hM' : Mem w' M) => rValidate_calls a A c w' M ha hM' (by omega) (by omega))
  have HSL : Hid (ss.length ≤ 1099511627776 ∧ ∀ s, s ∈ ss → s.length ≤ 1099511627776) := Hid.mk ⟨by omega, fun s hs => by have := hs1.2 s hs; omega⟩
  have HSL2 : Hid (ws.length ≤ 1099511627776) := Hid.mk (by omega)
  have HWM : Hid (a.wide ≤ 1099511627776) := Hid.mk (by omega)
  have HALL := Hid.mk (And.intro ha (And.intro hM (And.intro hss (And.intro hcs (And.intro hws (And.intro hcw ht))))))
  clear ha hM hss hcs hws hcw ht hs1 hw1 hsm hwm hna
  cases hoa : overP a with
  | true =>
    rw [hoa] at HO
    clear hoa
    go_enter Tryz.func4, Tryz.ntmps4
    go_wp2_with fail
    refine (HO.out _ (HB.out _ (Kp.refl _ _)).1).mono ?_
    rintro en w2 ⟨rfl, hk2⟩
    have HZ := Hid.mk (HB.out _ hk2).2.2
    clear hk2
    go_wp2_with fail
    refine (HKn.out w2).mono ?_
    rintro en w3 ⟨rfl, hk3⟩
    have HZ3 := Hid.mk (HZ.out.trans hk3)
    clear hk3
    go_wp2_with fail
    go_ret
    exact ⟨rfl, HZ3.out⟩
  | false =>
    rw [hoa] at HO
    clear hoa
    cases hlong : decide (16384 < wts [ss, ws]) with
    | true =>
      rw [hlong] at HL
      clear hlong
      go_enter Tryz.func4, Tryz.ntmps4
      go_wp2_with fail
      refine (HO.out _ (HB.out _ (Kp.refl _ _)).1).mono ?_
      rintro en w2 ⟨rfl, hk2⟩
      obtain ⟨hM2, ⟨p0, p1, p2⟩, hK2⟩ := HB.out _ hk2
      have hbx := Box.new hM2 #[.slice As ss.length cs, .slice Aw ws.length cw] 25
      have HL2 := Hid.mk (HL.out w2.heap.size 2 _ (hM2.alloc _) (hbx.cell 0) (hbx.cell 1))
      have HZ2 := Hid.mk (hK2.alloc (.cells #[.slice As ss.length cs, .slice Aw ws.length cw] 25))
      clear hk2 hM2 hK2 hbx
      go_wp2_with fail
      (with_reducible refine HL2.out.mono ?_)
      rintro en w3 ⟨rfl, rfl⟩
      go_wp2_with fail
      refine (HKn.out _).mono ?_
      rintro en w4 ⟨rfl, hk4⟩
      have HZ4 := Hid.mk (HZ2.out.trans hk4)
      clear hk4
      go_wp2_with fail
      go_ret
      exact ⟨rfl, HZ4.out⟩
    | false =>
      rw [hlong] at HL
      clear hlong
      by_cases hv : verdict a = 0
      · have HV := Hid.mk hv
        have HS40 := Hid.mk (verdict_good hv)
        rw [hv] at HRV
        clear hv
        go_enter Tryz.func4, Tryz.ntmps4
        go_wp2_with fail
        refine (HO.out _ (HB.out _ (Kp.refl _ _)).1).mono ?_
        rintro en w2 ⟨rfl, hk2⟩
        obtain ⟨hM2, ⟨p0, p1, p2⟩, hK2⟩ := HB.out _ hk2
        have hbx := Box.new hM2 #[.slice As ss.length cs, .slice Aw ws.length cw] 25
        have HL2 := Hid.mk (HL.out w2.heap.size 2 _ (hM2.alloc _) (hbx.cell 0) (hbx.cell 1))
        have hk3 := hk2.alloc (.cells #[.slice As ss.length cs, .slice Aw ws.length cw] 25)
        obtain ⟨hM3, ⟨s0, s1, s2⟩, hK3⟩ := HB.out _ hk3
        have HSG3 := Hid.mk (HSG.out HV.out _ hM3)
        have HK3 := Hid.mk hk3
        clear hk2 hM2 hK2 hbx hk3 hM3 hK3
        go_wp2_with fail
        (with_reducible refine HL2.out.mono ?_)
        rintro en w3 ⟨rfl, rfl⟩
        go_wp2_with fail
        refine HSG3.out.mono ?_
        rintro en w4 ⟨s, A1, c1, M1, rfl, hro, hfx, _, hxs, hM4, hE4, hk4⟩
        have hk4a := HK3.out.trans hk4
        have HB7 := Hid.mk (box_kept hM4 (.int .i64 s.op) (.string (bs s.s)) (.slice A1 s.l.length c1))
        have hk5 := hk4a.alloc (.cells #[.int .i64 s.op, .string (bs s.s), .slice A1 s.l.length c1] 24)
        obtain ⟨hM5, ⟨t0, t1, t2⟩, hK5⟩ := HB.out _ hk5
        have HRV5 := Hid.mk (HRV.out _ hM5)
        have HK5 := Hid.mk hk5
        have HRO := Hid.mk (And.intro hro (And.intro hfx (And.intro hxs hE4)))
        have HVS := Hid.mk (hro.verdict HV.out)
        clear hk4 hk4a hk5 hM5 hK5 hro hfx hxs hM4 hE4 p0 p1 p2 s0 s1 s2
        go_wp2_with fail
        refine HRV5.out.mono ?_
        rintro en w6 ⟨rfl, hk6⟩
        obtain ⟨hM6, ⟨u0, u1, u2⟩, hK6⟩ := HB7.out _ hk6
        have HSG6 := Hid.mk (Simple_good HRO.out.2.2.1 HRO.out.1.right HVS.out (by have := HS40.out.1; have := HRO.out.1.size; omega) (Nat.le_trans (wide_right s.size s (Nat.le_refl _) HRO.out.1.right) (by omega)) w6 hM6)
        have HK6 := Hid.mk (And.intro hk6 (HK5.out.trans hk6))
        clear hk6 hM6 hK6 t0 t1 t2
        go_wp2_with fail
        refine HSG6.out.mono ?_
        rintro en w8 ⟨sx, A2, c2, M2, rfl, _, _, heq, hx2, hM8, hE8, hk8⟩
        obtain rfl : s = sx := (heq HRO.out.2.1).symm
        have HB9 := Hid.mk (box_kept hM8 (.int .i64 s.op) (.string (bs s.s)) (.slice A2 s.l.length c2))
        have hk9a := (HK6.out.2.trans hk8).alloc (.cells #[.int .i64 s.op, .string (bs s.s), .slice A2 s.l.length c2] 24)
        have hk9s := (HK6.out.1.trans hk8).alloc (.cells #[.int .i64 s.op, .string (bs s.s), .slice A2 s.l.length c2] 24)
        have hs40 : a.size ≤ 40 := HS40.out.1
        have hrs := HRO.out.1.size
        have hss40 : s.size ≤ 40 := Nat.le_trans hrs hs40
        have hws16 := wide_right s.size s (Nat.le_refl _) HRO.out.1.right
        have HXS := Hid.mk HRO.out.2.2.1
        have HX2 := Hid.mk (And.intro (HRO.out.2.2.1.ext hE8) hx2)
        have HLV := Hid.mk (fun (k : Nat) (hk : k ≤ 40) => (Nat.le_trans hk (by decide) : k ≤ 1099511627776))
        clear hM8 hk8 heq hE8 hx2
        go_upto_region 9 with fail
        clear u0 u1 u2
        generalize w8.alloc (.cells #[.int .i64 s.op, .string (bs s.s), .slice A2 s.l.length c2] 24) = w9 at *
        have HA9 : Hid (∀ w', Kp [] w9 w' → Mem w' M ∧ (w'.cell? ⟨w.heap.size, 0, none⟩ = some (.int .i64 a.op) ∧ w'.cell? ⟨w.heap.size, 1, none⟩ = some (.string (bs a.s)) ∧ w'.cell? ⟨w.heap.size, 2, none⟩ = some (.slice A a.l.length c)) ∧ Kp [] w w') := Hid.mk (fun w' hk => HB.out _ (hk9a.trans hk))
        have HS9 := Hid.mk (fun w' (hk : Kp [] w9 w') => HB7.out _ (hk9s.trans hk))
        clear hk9a hk9s HB HB7 HK6
        obtain ⟨τ, W, x0, hx0, hC, hin⟩ := class_of (fun w' => Kp [] w9 w') (w := w9.drew) (Kp.refl [] w9).drew
        have hne : Nonempty τ := ⟨x0⟩
        have HC := Hid.mk hC
        have HIN := Hid.mk hin
        have HX0 := Hid.mk hx0
        clear hC hin hx0
        have e0 : ∀ x, (W x).cell? ⟨w.heap.size, 0, none⟩ = some (.int .i64 a.op) := fun x => (HA9.out _ (HC.out x)).2.1.1
        have e1 : ∀ x, (W x).cell? ⟨w.heap.size, 1, none⟩ = some (.string (bs a.s)) := fun x => (HA9.out _ (HC.out x)).2.1.2.1
        have e2 : ∀ x, (W x).cell? ⟨w.heap.size, 2, none⟩ = some (.slice A a.l.length c) := fun x => (HA9.out _ (HC.out x)).2.1.2.2
        have e3 : ∀ x, (W x).cell? ⟨w4.heap.size, 0, none⟩ = some (.int .i64 s.op) := fun x => (HS9.out _ (HC.out x)).2.1.1
        have e4 : ∀ x, (W x).cell? ⟨w4.heap.size, 1, none⟩ = some (.string (bs s.s)) := fun x => (HS9.out _ (HC.out x)).2.1.2.1
        have e5 : ∀ x, (W x).cell? ⟨w4.heap.size, 2, none⟩ = some (.slice A1 s.l.length c1) := fun x => (HS9.out _ (HC.out x)).2.1.2.2
        have e6 : ∀ x, (W x).cell? ⟨w8.heap.size, 0, none⟩ = some (.int .i64 s.op) := fun x => (HB9.out _ (HC.out x)).2.1.1
        have e7 : ∀ x, (W x).cell? ⟨w8.heap.size, 1, none⟩ = some (.string (bs s.s)) := fun x => (HB9.out _ (HC.out x)).2.1.2.1
        have e8 : ∀ x, (W x).cell? ⟨w8.heap.size, 2, none⟩ = some (.slice A2 s.l.length c2) := fun x => (HB9.out _ (HC.out x)).2.1.2.2
        have HC1 : Hid (∀ x, Calls Tryz.prog 13 #[.agg #[.int .i64 s.op, .string (bs s.s), .slice A1 s.l.length c1]] (W x) (fun e w' => e = .returned (.int .i64 0) ∧ ∃ x, w' = W x)) := Hid.mk (fun x => (rValidate_calls s A1 c1 (W x) M1 HXS.out (HS9.out _ (HC.out x)).1 (HLV.out _ hss40) (by omega)).mono (by rintro e w5 ⟨rfl, hk5⟩; exact ⟨by rw [HVS.out], HIN.out _ ((HC.out x).trans hk5)⟩))
        have HC2 : Hid (∀ x, Calls Tryz.prog 15 #[.agg #[.int .i64 s.op, .string (bs s.s), .slice A1 s.l.length c1]] (W x) (fun e w' => e = .returned (.int .i64 (s.size : Nat)) ∧ ∃ x, w' = W x)) := Hid.mk (fun x => (rSize_calls s.size s A1 c1 (W x) M1 HXS.out (HS9.out _ (HC.out x)).1 (Nat.le_refl _) (HLV.out _ hss40)).mono (by rintro e w5 ⟨rfl, hk5⟩; exact ⟨rfl, HIN.out _ ((HC.out x).trans hk5)⟩))
        have HC3 : Hid (∀ x, Calls Tryz.prog 15 #[.agg #[.int .i64 a.op, .string (bs a.s), .slice A a.l.length c]] (W x) (fun e w' => e = .returned (.int .i64 (a.size : Nat)) ∧ ∃ x, w' = W x)) := Hid.mk (fun x => (rSize_calls a.size a A c (W x) M HALL.out.1 (HA9.out _ (HC.out x)).1 (Nat.le_refl _) (HLV.out _ hs40)).mono (by rintro e w5 ⟨rfl, hk5⟩; exact ⟨rfl, HIN.out _ ((HC.out x).trans hk5)⟩))
        have HC4 : Hid (∀ x, Calls Tryz.prog 14 #[.agg #[.int .i64 s.op, .string (bs s.s), .slice A1 s.l.length c1], .agg #[.int .i64 s.op, .string (bs s.s), .slice A2 s.l.length c2]] (W x) (fun e w' => e = .returned (.bool true) ∧ ∃ x, w' = W x)) := Hid.mk (fun x => (rSame_calls s.size s s A1 A2 c1 c2 (W x) M2 HX2.out.1 HX2.out.2 (HB9.out _ (HC.out x)).1 (Nat.le_refl _) (HLV.out _ hss40)).mono (by rintro e w5 ⟨rfl, hk5⟩; exact ⟨by rw [same_iff.2 rfl], HIN.out _ ((HC.out x).trans hk5)⟩))
        have hng : ¬ (a.size : Int) < (s.size : Int) := by omega
        have HN40 := Hid.mk (And.intro hs40 (And.intro hss40 hrs))
        clear hs40 hrs hss40 hws16
        refine wp_region_cls W x0 HX0.out (by kernel_rfl) (by kernel_rfl) ?_
        repeat (go_big_quiet_step (first | (go_at_call 13; exact HC1.out _) | (go_at_call 15; first | (with_reducible exact HC2.out _) | (with_reducible exact HC3.out _)) | (go_at_call 14; exact HC4.out _) | fail))
        refine wpQuiet_nil ?_
        rintro _ ⟨x, rfl⟩
        have hk10 := HC.out x
        clear e0 e1 e2 e3 e4 e5 e6 e7 e8 hng
        generalize W x = w10 at *
        clear HC HIN HX0 HC1 HC2 HC3 HC4 hne
        obtain ⟨hM10, ⟨p0, p1, p2⟩, hK10⟩ := HA9.out _ hk10
        have HK10 := Hid.mk hk10
        have HKW10 := Hid.mk hK10
        have HAR := Hid.mk (And.intro HALL.out.2.2.1 (And.intro HALL.out.2.2.2.1 (And.intro HALL.out.2.2.2.2.1 (And.intro HALL.out.2.2.2.2.2.1 HALL.out.2.2.2.2.2.2))))
        have HGV : Hid (Calls Tryz.prog 16 #[.agg #[.int .i64 a.op, .string (bs a.s), .slice A a.l.length c], .slice As ss.length cs] w10 (fun en w' => en = .returned (.int .i64 (givenR a ss)) ∧ Kp [] w10 w')) := Hid.mk (rGiven_calls HALL.out.1 (HLV.out _ HN40.out.1) HWM.out HAR.out.1 HAR.out.2.1 HSL.out.1 HSL.out.2 w10 hM10)
        have HOV : Hid (∀ w', Mem w' M → Calls Tryz.prog 17 #[.agg #[.int .i64 a.op, .string (bs a.s), .slice A a.l.length c], .slice As ss.length cs] w' (fun en w2 => en = .returned (.bool (a.syms.all (fun x => ss.any (· == x)))) ∧ Kp [] w' w2)) := Hid.mk (fun w' hM' => rIsOver_calls HALL.out.1 (by have := HN40.out.1; omega) HAR.out.1 HAR.out.2.1 HSL.out.1 w' hM')
        have HIV : Hid (∀ w', Mem w' M → Calls Tryz.prog 18 #[.slice Aw ws.length cw, .slice As ss.length cs] w' (fun en w2 => en = .returned (.bool (ws.all (fun x => ss.any (· == x)))) ∧ w' = w2)) := Hid.mk (fun w' hM' => rIs_calls HSL.out.1 HSL2.out HAR.out.1 HAR.out.2.1 HAR.out.2.2.1.ws HAR.out.2.2.2.1 w' hM')
        clear hk10 hM10 hK10
        by_cases hg : givenR a ss = 0
        · obtain ⟨_, haE⟩ := given_zero hg
          have HAE := Hid.mk haE
          rw [hg] at HGV
          clear hg haE
          go_wp2_with fail
          refine HGV.out.mono ?_
          rintro en w11 ⟨rfl, hk11⟩
          have hk11a := HK10.out.trans hk11
          obtain ⟨hM11, ⟨q0, q1, q2⟩, hK11⟩ := HA9.out _ hk11a
          have HO11 := Hid.mk (HOV.out _ hM11)
          have HK11 := Hid.mk hk11a
          clear hk11 hk11a hM11 hK11 p0 p1 p2
          cases ho : a.syms.all (fun x => ss.any (· == x)) with
          | false =>
            rw [ho] at HO11
            clear ho
            go_wp2_with fail
            refine HO11.out.mono ?_
            rintro en w12 ⟨rfl, hk12⟩
            have HK12 := Hid.mk (HA9.out _ (HK11.out.trans hk12)).2.2
            clear hk12
            go_wp2_with fail
            refine (HKn.out _).mono ?_
            rintro en wz1 ⟨rfl, hkz⟩
            have HZ1 := Hid.mk (Kp.trans HK12.out hkz)
            clear hkz
            go_wp2_with fail
            go_ret
            exact ⟨rfl, HZ1.out⟩
          | true =>
            rw [ho] at HO11
            have HOO := Hid.mk ho
            clear ho
            go_wp2_with fail
            refine HO11.out.mono ?_
            rintro en w12 ⟨rfl, hk12⟩
            have hk12a := HK11.out.trans hk12
            obtain ⟨hM12, ⟨r0, r1, r2⟩, hK12⟩ := HA9.out _ hk12a
            have HI12 := Hid.mk (HIV.out _ hM12)
            have HK12 := Hid.mk hk12a
            have HKW12 := Hid.mk hK12
            clear hk12 hk12a hM12 hK12 q0 q1 q2
            cases hi : ws.all (fun x => ss.any (· == x)) with
            | false =>
              rw [hi] at HI12
              clear hi
              go_wp2_with fail
              refine HI12.out.mono ?_
              rintro en w13 ⟨rfl, rfl⟩
              go_wp2_with fail
              refine (HKn.out _).mono ?_
              rintro en wz2 ⟨rfl, hkz⟩
              have HZ2 := Hid.mk (Kp.trans HKW12.out hkz)
              clear hkz
              go_wp2_with fail
              go_ret
              exact ⟨rfl, HZ2.out⟩
            | true =>
              rw [hi] at HI12
              have HII := Hid.mk hi
              clear hi
              by_cases h9 : ws.length ≤ 9
              · have h9i : ¬ (9 : Int) < (ws.length : Int) := by omega
                have hokw := okw_of HAE.out HII.out h9
                have hsr : s.syms.all (fun x => ss.any (· == x)) = true := HRO.out.1.over HOO.out
                have HOS : Hid (∀ w', Kp [] w12 w' → Calls Tryz.prog 17 #[.agg #[.int .i64 s.op, .string (bs s.s), .slice A1 s.l.length c1], .slice As ss.length cs] w' (fun en w2 => en = .returned (.bool true) ∧ Kp [] w' w2)) := Hid.mk (fun w' hk => by
                  have := rIsOver_calls (c := c1) (cs := cs) HXS.out (by have := HN40.out.2.1; omega) (WsM.ext HRO.out.2.2.2 HAR.out.1) HAR.out.2.1 HSL.out.1 w' (HS9.out _ (HK12.out.trans hk)).1
                  rw [hsr] at this
                  exact this)
                have HN1 : Hid (∀ w', Kp [] w12 w' → Calls Tryz.prog 19 #[.agg #[.int .i64 s.op, .string (bs s.s), .slice A1 s.l.length c1]] w' (fun en w2 => ∃ ga, en = .returned (.pointer (some ⟨ga, 0, none⟩)) ∧ Kp [] w' w2 ∧ Calls Tryz.prog 20 #[.pointer (some ⟨ga, 0, none⟩), .slice Aw ws.length cw] w2 (fun en w3 => en = .returned (.bool (rev a ws)) ∧ Kp [] w' w3))) := Hid.mk (fun w' hk => (rNewAsker_calls (L := 9) HXS.out (by have := HN40.out.2.1; omega) w' (HS9.out _ (HK12.out.trans hk)).1).mono (fun en w2 h => by
                  obtain ⟨ga, h1, h2, h3⟩ := asked HRO.out.1.right HN40.out.2.1 (fun _ => by decide) (by decide) (WvM.ext HRO.out.2.2.2 HAR.out.2.2.1) HAR.out.2.2.2.1 hokw h
                  rw [HRO.out.1.word] at h3
                  exact ⟨ga, h1, h2, h3⟩))
                have HN2 : Hid (∀ w', Kp [] w12 w' → Calls Tryz.prog 19 #[.agg #[.int .i64 a.op, .string (bs a.s), .slice A a.l.length c]] w' (fun en w2 => ∃ ga, en = .returned (.pointer (some ⟨ga, 0, none⟩)) ∧ Kp [] w' w2 ∧ Calls Tryz.prog 20 #[.pointer (some ⟨ga, 0, none⟩), .slice Aw ws.length cw] w2 (fun en w3 => en = .returned (.bool (rev a ws)) ∧ Kp [] w' w3))) := Hid.mk (fun w' hk => (rNewAsker_calls (L := 9) HALL.out.1 (by have := HN40.out.1; omega) w' (HA9.out _ (HK12.out.trans hk)).1).mono (fun en w2 h => asked HS40.out.2.2 HN40.out.1 (fun _ => by decide) (by decide) HAR.out.2.2.1 HAR.out.2.2.2.1 hokw h))
                have HCE : Hid (∀ w', Kp [] w12 w' → (w'.cell? ⟨w.heap.size, 0, none⟩ = some (.int .i64 a.op) ∧ w'.cell? ⟨w.heap.size, 1, none⟩ = some (.string (bs a.s)) ∧ w'.cell? ⟨w.heap.size, 2, none⟩ = some (.slice A a.l.length c)) ∧ (w'.cell? ⟨w4.heap.size, 0, none⟩ = some (.int .i64 s.op) ∧ w'.cell? ⟨w4.heap.size, 1, none⟩ = some (.string (bs s.s)) ∧ w'.cell? ⟨w4.heap.size, 2, none⟩ = some (.slice A1 s.l.length c1)) ∧ Kp [] w w') := Hid.mk (fun w' hk => ⟨(HA9.out _ (HK12.out.trans hk)).2.1, (HS9.out _ (HK12.out.trans hk)).2.1, (HA9.out _ (HK12.out.trans hk)).2.2⟩)
                have HKN : Hid (∀ w', Kp [] w12 w' → Calls Tryz.prog 9 #[] w' (fun en w2 => en = .returned (.bool true) ∧ Kp [] w' w2)) := Hid.mk (fun w' _ => HKn.out w')
                have HDR : Hid (Kp [] w12 w12.drew) := Hid.mk (Kp.refl _ _).drew
                clear hokw hsr h9
                go_wp2_with fail
                refine HI12.out.mono ?_
                rintro en w13 ⟨rfl, rfl⟩
                go_upto_region 13 with fail
                clear h9i
                obtain ⟨⟨g0, g1, g2⟩, ⟨g3, g4, g5⟩, _⟩ := HCE.out _ (Kp.refl _ _)
                have hkc := HDR.out
                generalize rev a ws = rb at *
                have hbb : (rb == rb) = true := by simp
                go_region_held3 (fun w' => w'.cell? ⟨w.heap.size, 0, none⟩ = some (.int .i64 a.op) ∧ w'.cell? ⟨w.heap.size, 1, none⟩ = some (.string (bs a.s)) ∧ w'.cell? ⟨w.heap.size, 2, none⟩ = some (.slice A a.l.length c) ∧ w'.cell? ⟨w4.heap.size, 0, none⟩ = some (.int .i64 s.op) ∧ w'.cell? ⟨w4.heap.size, 1, none⟩ = some (.string (bs s.s)) ∧ w'.cell? ⟨w4.heap.size, 2, none⟩ = some (.slice A1 s.l.length c1)) (go_keep) (first
                  | (go_at_call 17; (with_reducible refine (HOS.out _ (by assumption)).mono ?_); rintro en w5 ⟨rfl, hk5⟩; have hkc := hkc.trans hk5; obtain ⟨⟨g0, g1, g2⟩, ⟨g3, g4, g5⟩, _⟩ := HCE.out _ hkc; clear hk5)
                  | (go_at_call 19; (first | (with_reducible refine (HN1.out _ (by assumption)).mono ?_) | (with_reducible refine (HN2.out _ (by assumption)).mono ?_)); rintro en w6 ⟨ga, rfl, hk6, h6⟩; have hkp := hkc; have hkc := hkc.trans hk6; have HH6 := Hid.mk h6; obtain ⟨⟨g0, g1, g2⟩, ⟨g3, g4, g5⟩, _⟩ := HCE.out _ hkc; clear hk6 h6)
                  | (go_at_call 20; (with_reducible refine (HH6.out).mono ?_); rintro en w7 ⟨rfl, hk7⟩; have hkc := hkp.trans hk7; obtain ⟨⟨g0, g1, g2⟩, ⟨g3, g4, g5⟩, _⟩ := HCE.out _ hkc; clear hk7)
                  | (go_at_call 9; (with_reducible refine (HKn.out _).mono ?_); rintro en w8 ⟨rfl, hk8⟩; have hkc := hkc.trans hk8; obtain ⟨⟨g0, g1, g2⟩, ⟨g3, g4, g5⟩, _⟩ := HCE.out _ hkc; clear hk8))
                go_wp2_with fail
                go_ret
                exact ⟨rfl, (HCE.out _ hkc).2.2⟩
              · have h9i : (9 : Int) < (ws.length : Int) := by omega
                clear h9
                go_wp2_with fail
                refine HI12.out.mono ?_
                rintro en w13 ⟨rfl, rfl⟩
                go_wp2_with fail
                refine (HKn.out _).mono ?_
                rintro en wz3 ⟨rfl, hkz⟩
                have HZ3 := Hid.mk (Kp.trans HKW12.out hkz)
                clear hkz
                go_wp2_with fail
                go_ret
                exact ⟨rfl, HZ3.out⟩
        · have hgb : (givenR a ss != 0) = true := by rw [bne_iff_ne]; exact hg
          clear hg
          generalize givenR a ss = gv at *
          go_wp2_with fail
          refine HGV.out.mono ?_
          rintro en w11 ⟨rfl, hk11⟩
          have HK11 := Hid.mk (HA9.out _ (HK10.out.trans hk11)).2.2
          clear hk11
          go_wp2_with fail
          refine (HKn.out _).mono ?_
          rintro en wz4 ⟨rfl, hkz⟩
          have HZ4 := Hid.mk (Kp.trans HK11.out hkz)
          clear hkz
          go_wp2_with fail
          go_ret
          exact ⟨rfl, HZ4.out⟩
      · have hvb : (verdict a != 0) = true := by rw [bne_iff_ne]; exact hv
        have hvv : (verdict a != verdict a) = false := by simp
        have HV := Hid.mk hv
        clear hv
        go_enter Tryz.func4, Tryz.ntmps4
        go_wp2_with fail
        refine (HO.out _ (HB.out _ (Kp.refl _ _)).1).mono ?_
        rintro en w2 ⟨rfl, hk2⟩
        obtain ⟨hM2, ⟨p0, p1, p2⟩, hK2⟩ := HB.out _ hk2
        have hbx := Box.new hM2 #[.slice As ss.length cs, .slice Aw ws.length cw] 25
        have HL2 := Hid.mk (HL.out w2.heap.size 2 _ (hM2.alloc _) (hbx.cell 0) (hbx.cell 1))
        have hk3 := hk2.alloc (.cells #[.slice As ss.length cs, .slice Aw ws.length cw] 25)
        obtain ⟨hM3, ⟨s0, s1, s2⟩, hK3⟩ := HB.out _ hk3
        have HSB3 := Hid.mk (HSB.out HV.out _ hM3)
        have HK3 := Hid.mk hk3
        clear hk2 hM2 hK2 hbx hk3 hM3 hK3
        go_wp2_with fail
        (with_reducible refine HL2.out.mono ?_)
        rintro en w3 ⟨rfl, rfl⟩
        go_wp2_with fail
        refine HSB3.out.mono ?_
        rintro en w4 ⟨rfl, hk4⟩
        have hk4a := HK3.out.trans hk4
        obtain ⟨hM4, _, hK4⟩ := HB.out _ hk4a
        have hbz := Box.new hM4 #[.int .i64 0, .string ⟨#[]⟩, .slice none 0 0] 24
        have hk5 := hk4a.alloc (.cells #[.int .i64 0, .string ⟨#[]⟩, .slice none 0 0] 24)
        obtain ⟨hM5, ⟨t0, t1, t2⟩, hK5⟩ := HB.out _ hk5
        have HRV5 := Hid.mk (HRV.out _ hM5)
        have HK5 := Hid.mk hk5
        have HBZ := Hid.mk hbz
        clear hk4 hk4a hM4 hK4 hk5 hM5 hK5 hbz p0 p1 p2 s0 s1 s2
        go_wp2_with fail
        refine HRV5.out.mono ?_
        rintro en w6 ⟨rfl, hk6⟩
        obtain ⟨hM6, _, hK6⟩ := HB.out _ (HK5.out.trans hk6)
        obtain ⟨⟨z0, z1, z2⟩, _⟩ := (HBZ.out.same hk6 (by simp)).three
        have HSM : Hid (Calls Tryz.prog 14 #[.agg #[.int .i64 0, .string ⟨#[]⟩, .slice none 0 0], .agg #[.int .i64 0, .string ⟨#[]⟩, .slice none 0 0]] w6 fun en w' => en = .returned (.bool true) ∧ Kp [] w6 w') := Hid.mk (by
          have := rSame_calls 1 (.mk 0 [] []) (.mk 0 [] []) none none 0 0 w6 M (exv_zero M) (exv_zero M) hM6 (by simp [E.size, sizes]) (by omega)
          rw [same_iff.2 rfl] at this
          exact this)
        have HK6 := Hid.mk hK6
        clear hk6 hM6 hK6 t0 t1 t2
        go_wp2_with fail
        refine HSM.out.mono ?_
        rintro en w7 ⟨rfl, hk7⟩
        have HK7 := Hid.mk (HK6.out.trans hk7)
        clear hk7
        go_wp2_with fail
        refine (HKn.out _).mono ?_
        rintro en w8 ⟨rfl, hk8⟩
        have HK8 := Hid.mk (HK7.out.trans hk8)
        clear hk8
        go_wp2_with fail
        go_ret
        exact ⟨rfl, HK8.out⟩
end Go.Proofs.YtgdnhlckodhhgaaGreatDoor
