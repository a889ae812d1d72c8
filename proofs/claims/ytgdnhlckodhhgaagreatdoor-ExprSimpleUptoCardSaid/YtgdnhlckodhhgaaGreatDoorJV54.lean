/-
  What is simplified, by the program (simpler).
-/
import Derived.Test.YtgdnhlckodhhgaaGreatDoorJVR
namespace Go.Proofs.YtgdnhlckodhhgaaGreatDoor
open Go.RowKit
set_option linter.unusedVariables false
set_option linter.unusedSimpArgs false
theorem zero3_cells {w : World} {b : Nat} {t : TypeId} (h : w.heap[b]? = some (.cells #[.int .i64 0, .string ⟨#[]⟩, .slice none 0 0] t (0, 0))) : ∀ j u, zero3[j]? = some u → w.cell? ((⟨b, 0, none⟩ : Addr).add j) = some u := World.news_of_block (cs := #[.int .i64 0, .string ⟨#[]⟩, .slice none 0 0]) h
theorem zero3_one : ∀ u ∈ zero3, u.oneCell' = true := by
  intro u hu
  simp [zero3] at hu
  rcases hu with rfl | rfl | rfl <;> rfl
set_option maxRecDepth 100000 in
set_option maxHeartbeats 16000000 in
theorem simpler_calls (n : Nat) : ∀ (e : E) (A : Option Addr) (c : Nat) (w : World) (M : Heap), ExV M e A c → Mem w M → e.right = true → e.size ≤ n → n ≤ 1000 →
    Calls Tryz.prog 42 #[.agg #[.int .i64 e.op, .string (bs e.s), .slice A e.l.length c]] w (SEnd M e.red w) := by
  obtain ⟨i0, hi, hzz⟩ := Option.map_eq_some_iff.1 Tryz.infoE
  simp only [Prod.mk.injEq] at hzz
  obtain ⟨hz0, hz1, hz2⟩ := hzz
  have HI := Hid.mk (And.intro hi (And.intro hz0 (And.intro hz1 hz2)))
  clear hi hz0 hz1 hz2
  induction n with
  | zero => intro e A c w M _ _ _ he; have := size_pos e; omega
  | succ n ih =>
    intro e A c w M he hM hr hn hbig
    have hsz := E.size_eq e
    have hll := length_sizes e.l
    have hrk : ∀ x ∈ e.l, x.right = true := fun x hx => by
      rw [E.right_eq, Bool.and_eq_true] at hr
      exact List.all_eq_true.1 hr.2 x hx
    have HIH := Hid.mk ih
    have HE := Hid.mk he
    have HRK := Hid.mk hrk
    have HR := Hid.mk hr
    obtain ⟨hb0, hb1⟩ := two_boxesF hM #[.int .i64 e.op, .string (bs e.s), .slice A e.l.length c] #[.int .i64 0, .string ⟨#[]⟩, .slice none 0 0] 24 24
    have hM2 := (hM.alloc (.cells #[.int .i64 e.op, .string (bs e.s), .slice A e.l.length c] 24)).alloc (.cells #[.int .i64 0, .string ⟨#[]⟩, .slice none 0 0] 24)
    have hs2 : ((w.alloc (.cells #[.int .i64 e.op, .string (bs e.s), .slice A e.l.length c] 24)).alloc (.cells #[.int .i64 0, .string ⟨#[]⟩, .slice none 0 0] 24)).heap.size = w.heap.size + 2 := by simp
    have hb2 := Box.new hM2 #[.int .i64 e.op, .string (bs e.s), .slice none 0 0] 24
    rw [hs2] at hb2
    have HS0 : Hid (SI w M e A c 0 (((w.alloc (.cells #[.int .i64 e.op, .string (bs e.s), .slice A e.l.length c] 24)).alloc (.cells #[.int .i64 0, .string ⟨#[]⟩, .slice none 0 0] 24)).alloc (.cells #[.int .i64 e.op, .string (bs e.s), .slice none 0 0] 24))) :=
      Hid.mk ⟨M, [], .slice none 0 0, by simp [reds], rfl, ⟨rfl, .inl ⟨rfl, rfl⟩⟩, (fun x hx => by cases hx), (fun j hj => by simp at hj), hM2.alloc _, Ext.refl _ _, hb0.alloc _, hb1.alloc _, hb2, (((Kp.refl _ _).alloc _).alloc _).alloc _⟩
    obtain ⟨⟨p0, p1, p2⟩, _, _, _⟩ := hb0.three
    have p3 := ((hb0.alloc (.cells #[.int .i64 e.op, .string (bs e.s), .slice none 0 0] 24)).three.1).2.2
    clear he hM ih hrk hr hb0 hb1 hb2 hM2 hs2
    go_enter Tryz.func42, Tryz.ntmps42
    go_wp2_with fail
    clear p0 p1 p2 p3
    go_loopg [20] e.l.length (fun kk v wr => ∃ j : Nat, j ≤ e.l.length ∧ kk = e.l.length - j ∧ v = .int .i64 (j : Nat) ∧ Hid (SI w M e A c j wr))
    case atStart => exact ⟨0, Nat.zero_le _, by simp, rfl, HS0⟩
    case round =>
      clear HS0
      obtain ⟨j, hj, hkk, rfl, HS⟩ := hrel
      by_cases hlt : j < e.l.length
      · obtain ⟨M', ps, v, h1, h2, hown, hv, hav, hM, hE, hb0, hb1, hb2, hK⟩ := HS.out
        obtain ⟨Av, cv, rfl, hcv, _⟩ := ownb_shape hown
        have HPL := Hid.mk h2
        obtain ⟨bb, o, rfl⟩ := HE.out.place (by omega)
        obtain ⟨A', c', k0, k1, k2, hx⟩ := (HE.out.ext hE).at_ j hlt
        have q0 := hM.cell k0
        have q1 := hM.cell k1
        have q2 := hM.cell k2
        have hjs := size_mem (List.getElem_mem hlt)
        have hwr := hK.size
        have hl2 := hb2.lt
        have hM8 := hM.alloc (.cells #[.int .i64 e.l[j].op, .string (bs e.l[j].s), .slice A' e.l[j].l.length c'] 24)
        have hx8 := Box.new hM #[.int .i64 e.l[j].op, .string (bs e.l[j].s), .slice A' e.l[j].l.length c'] 24
        have hb8 := hb2.alloc (.cells #[.int .i64 e.l[j].op, .string (bs e.l[j].s), .slice A' e.l[j].l.length c'] 24)
        have hown8 := ownb_alloc hown (.cells #[.int .i64 e.l[j].op, .string (bs e.l[j].s), .slice A' e.l[j].l.length c'] 24)
        have hs8 : (wr.alloc (.cells #[.int .i64 e.l[j].op, .string (bs e.l[j].s), .slice A' e.l[j].l.length c'] 24)).heap.size = wr.heap.size + 1 := by simp
        have HST := Hid.mk (fun g cap A6 c6 M6 w9 => SI.step (g := g) (cap := cap) (A6 := A6) (c6 := c6) (M6 := M6) (w9 := w9) (o8 := .cells #[.int .i64 e.l[j].op, .string (bs e.l[j].s), .slice A' e.l[j].l.length c'] 24) hlt h1 h2 hown hv hav hM hE hb0 hb1 hb2 hK)
        have HST2 : Hid (∀ (g cap : Nat) (A6 : Option Addr) (c6 : Nat) (M6 : Heap) (w9 : World), PA (Value.slice Av j cv).ownBlock.toList (wr.alloc (.cells #[.int .i64 e.l[j].op, .string (bs e.l[j].s), .slice A' e.l[j].l.length c'] 24)) (w.heap.size + 3) (.slice Av j cv) j (flat ps) g cap w9 → PC (wr.alloc (.cells #[.int .i64 e.l[j].op, .string (bs e.l[j].s), .slice A' e.l[j].l.length c'] 24)) M' e.l[j].red A6 c6 M6 w9 → M6 g = none → w.heap.size + 3 ≤ g →
            SI w M e (some ⟨bb, o, none⟩) c (j + 1) ((((w9.setCell ⟨w.heap.size + 2, 2, none⟩ (.slice (some ⟨g, 0, none⟩) (j + 1) cap)).setCell ⟨g, j * 3, none⟩ (.int .i64 e.l[j].red.op)).setCell ⟨g, j * 3 + 1, none⟩ (.string (bs e.l[j].red.s))).setCell ⟨g, j * 3 + 2, none⟩ (.slice A6 e.l[j].red.l.length c6))) := Hid.mk (by
          intro g cap A6 c6 M6 w9 y1 y2 y3 hg
          have hs := HST.out g cap A6 c6 M6 w9 y1 y2 y3
          rw [setCell_swap3 (p := ⟨g, j * 3, none⟩) (q := ⟨g, j * 3 + 1, none⟩) (r := ⟨g, j * 3 + 2, none⟩) (t := ⟨w.heap.size + 2, 2, none⟩) (by simp; omega) (by simp; omega) (by simp; omega)] at hs
          exact hs)
        have hvb : ∀ y, (Value.slice Av j cv).ownBlock = some y → M' y = none ∧ w.heap.size + 3 ≤ y ∧ y < wr.heap.size := fun y hy => ⟨hv y hy, ownb_base hown hy, ownb_lt hown hy⟩
        have HV := Hid.mk hvb
        clear h1 h2 hown hv hav hM hE hb0 hb1 hb2 hK k0 k1 k2 hvb
        go_upto_region 5 with fail
        generalize wr.alloc (.cells #[.int .i64 e.l[j].op, .string (bs e.l[j].s), .slice A' e.l[j].l.length c'] 24) = w8 at *
        have HM8 := Hid.mk hM8
        have HCF : Hid (∀ w', Kp (Value.slice Av j cv).ownBlock.toList w8 w' → ((w'.cell? ⟨wr.heap.size, 0, none⟩ = some (.int .i64 e.l[j].op) ∧ w'.cell? ⟨wr.heap.size, 1, none⟩ = some (.string (bs e.l[j].s)) ∧ w'.cell? ⟨wr.heap.size, 2, none⟩ = some (.slice A' e.l[j].l.length c')) ∧ w'.cell? ⟨w.heap.size + 2, 2, none⟩ = some (.slice Av j cv) ∧ w'.frozen? ⟨w.heap.size + 2, 2, none⟩ = false)) := Hid.mk (fun w' hk => by
          have hxx := hx8.same hk (by intro h; have := (HV.out _ (by simpa using h)).2.2; omega)
          have hbb := hb8.same hk (by intro h; have := (HV.out _ (by simpa using h)).2.1; omega)
          exact ⟨hxx.three.1, hbb.cell 2, hbb.free 2⟩)
        have HCALL : Hid (∀ w', Kp (Value.slice Av j cv).ownBlock.toList w8 w' → Calls Tryz.prog 42 #[.agg #[.int .i64 e.l[j].op, .string (bs e.l[j].s), .slice A' e.l[j].l.length c']] w' (SEnd M' e.l[j].red w')) := Hid.mk (fun w' hk => HIH.out e.l[j] A' c' w' M' hx (HM8.out.kp hk (fun y hy => (HV.out y (by simpa using hy)).1)) (HRK.out _ (List.getElem_mem hlt)) (by omega) (by omega))
        have HP0 : Hid (∀ w', Kp [] w8 w' → P0 (Value.slice Av j cv).ownBlock.toList w8 (w.heap.size + 3) (.slice Av j cv) j (flat ps) w') := Hid.mk (fun w' hk => ⟨hk.mono (by simp), ownb_keep hown8 hk⟩)
        have HVS : Hid (∀ y, (Value.slice Av j cv).ownBlock = some y → y ∈ (Value.slice Av j cv).ownBlock.toList) := Hid.mk (fun y hy => by rw [hy]; simp)
        have HV8 : Hid (∀ y, (Value.slice Av j cv).ownBlock = some y → M' y = none ∧ y < w8.heap.size) := Hid.mk (fun y hy => ⟨(HV.out y hy).1, by have := (HV.out y hy).2.2; omega⟩)
        have hbg : (j + 1 ≤ maxLen) ∧ (j + 1) * 48 ≤ 140737488355328 := by unfold maxLen; omega
        have HBG := Hid.mk hbg
        obtain ⟨⟨x0, x1, x2⟩, y2, yf⟩ := HCF.out w8 (Kp.refl _ _)
        have HK0 : Hid (Kp [] w8 w8.drew) := Hid.mk ((Kp.refl _ _).drew)
        have HBS : Hid (w.heap.size + 3 ≤ w8.heap.size) := Hid.mk (by omega)
        have HFL : Hid ((flat ps).length = j * 3) := Hid.mk (by rw [flat_length]; have := HPL.out; omega)
        have z8 : ∀ o, (w8.alloc o).drew.cell? ⟨w.heap.size + 2, 2, none⟩ = some (.slice Av j cv) := fun o => (HCF.out _ (((Kp.refl _ _).alloc o).drew)).2.1
        have a0 : ∀ o, (w8.alloc o).drew.cell? ⟨wr.heap.size, 0, none⟩ = some (.int .i64 e.l[j].op) := fun o => (HCF.out _ (((Kp.refl _ _).alloc o).drew)).1.1
        have a1 : ∀ o, (w8.alloc o).drew.cell? ⟨wr.heap.size, 1, none⟩ = some (.string (bs e.l[j].s)) := fun o => (HCF.out _ (((Kp.refl _ _).alloc o).drew)).1.2.1
        have a2 : ∀ o, (w8.alloc o).drew.cell? ⟨wr.heap.size, 2, none⟩ = some (.slice A' e.l[j].l.length c') := fun o => (HCF.out _ (((Kp.refl _ _).alloc o).drew)).1.2.2
        clear hM8 hx8 hb8 hown8 hbg q0 q1 q2 hx
        have HZ8 : Hid (∀ o w', Kp [] (w8.alloc o).drew w' → w'.heap[wr.heap.size + 1]? = some o) := Hid.mk (fun o w' hk => (hk.block _ (by simp; omega) (by simp)).trans (by rw [← hs8]; exact heap_alloc_new w8 o))
        have i0j : (0:Int) ≤ (j:Int) := by omega
        have i1j : (j:Int) < (j:Int) + 1 := by omega
        have i2j : (j:Int) < ((j + 1 : Nat) : Int) := by omega
        go_region_law (first
          | (go_simp; go_at_call 42; refine (HCALL.out _ ?_).mono ?_; (focus (first | exact hpa.1 | exact (Kp.refl _ _).drew | exact ((Kp.refl _ _).alloc _).drew)); intro en w6 hse; obtain ⟨A6, c6, M6, rfl, hpc, hk6, hx6⟩ := PC.of (S := (Value.slice Av j cv).ownBlock.toList) (w8 := w8) (by first | exact hpa.1 | exact (Kp.refl _ _).drew | exact ((Kp.refl _ _).alloc _).drew) hse; first | (have hpa6 := hpa.keepw hk6; have hg6 := hpa.none3 HM8.out HV8.out hx6; have hrc6 := hpa6.cells HFL.out; have hcf6 := HCF.out _ hpa6.1) | (have hp06 := (HP0.out _ (by first | exact (Kp.refl _ _).drew | exact ((Kp.refl _ _).alloc _).drew)).keepw hk6; have hcf6 := HCF.out _ hp06.1; have hcf6a : ∀ o, (w6.alloc o).cell? ⟨w.heap.size + 2, 2, none⟩ = some (.slice Av j cv) := fun o => (HCF.out _ (hp06.1.alloc o)).2.1); (try dsimp only))
          | (refine step_append_lies _ (by rfl) (.tmp 25) (.tmp 29) 22 (by rfl) (w.heap.size + 3) 24 i0 _ 3 48 Tryz.underlying22 HI.out.1 HI.out.2.1 HI.out.2.2.1 HI.out.2.2.2 rfl (by omega) (.slice Av j cv) j (flat ps) (by simp [Act.eval, Act.put]) (by first | exact hp06.2 | exact (hp06.keepw ((Kp.refl _ _).alloc _)).2 | exact (HP0.out _ (((Kp.refl _ _).alloc _).drew)).2) ⟨_, 0, none⟩ 1 1 zero3 (by simp [Act.eval, Act.put]; rfl) (by rfl) (by first | exact zero3_cells (HZ8.out _ _ hk6) | exact zero3_cells (HZ8.out _ _ (Kp.refl _ _)) | exact zero3_cells (heap_alloc_new _ _)) zero3_one (by omega) HBG.out.1 HBG.out.2 (by first | exact Nat.le_trans HBS.out hp06.1.size | exact Nat.le_trans HBS.out (hp06.keepw ((Kp.refl _ _).alloc _)).1.size | exact Nat.le_trans HBS.out (HP0.out _ (((Kp.refl _ _).alloc _).drew)).1.size) _ rfl ?_; intro g1 cap1 w7 hown7 hgr7 hat7 hlt7; have hpa := P0.grow (S := (Value.slice Av j cv).ownBlock.toList) (w8 := w8) (by first | exact hp06 | exact hp06.keepw ((Kp.refl _ _).alloc _) | exact HP0.out _ (((Kp.refl _ _).alloc _).drew)) HVS.out hown7 hgr7 hat7; have hrc := hpa.cells HFL.out; have hcf7 := HCF.out _ hpa.1; have hge7 : w.heap.size + 3 ≤ g1 := hpa.2.2.elim (fun h => (HV.out _ h).2.1) (fun h => Nat.le_trans HBS.out h); have hne7 : ¬ w.heap.size + 1 + 1 = g1 := (by omega); have hne7' : ¬ g1 = w.heap.size + 1 + 1 := (by omega); have hne7a : ¬ w.heap.size + 2 = g1 := (by omega); have hne7b : ¬ g1 = w.heap.size + 2 := (by omega); first | (have hpc7 := PC.grow (v := .slice Av j cv) (by first | exact hpc | exact hpc.keepw ((Kp.refl _ _).alloc _)) HV8.out hgr7; have hg7 := PC.none1 (v := .slice Av j cv) (by first | exact hpc | exact hpc.keepw ((Kp.refl _ _).alloc _)) HV8.out hat7) | skip))
        all_goals
          go_wp2_with fail
          go_roundg (e.l.length - (j + 1))
          case measure => omega
          case rel =>
            refine ⟨j + 1, by omega, rfl, by go_num, ?_⟩
            exact Hid.mk (by first | (with_reducible exact HST.out _ _ _ _ _ _ hpa6 hpc hg6) | (with_reducible exact HST.out _ _ _ _ _ _ hpa hpc7 hg7) | (with_reducible exact HST2.out _ _ _ _ _ _ hpa6 hpc hg6 hge7) | (with_reducible exact HST2.out _ _ _ _ _ _ hpa hpc7 hg7 hge7))
      · obtain rfl : j = e.l.length := by omega
        have hnlt : ¬ ((e.l.length : Int) < (e.l.length : Int)) := by omega
        have hfit : fits e.op e.s e.l.length = true := by have := HR.out; rw [E.right_eq, Bool.and_eq_true] at this; exact this.1
        have hrr : (reds e.l).all E.right = true := (reds_ok (fun x _ hr => red_ok x.size x (Nat.le_refl _) hr) (List.all_eq_true.2 HRK.out)).2.2.2.2.1
        have hfin := HS.out.fin
        have HED : Hid (e.red = redOp e.op e.s (reds e.l)) := Hid.mk (E.red_eq e)
        have hln := reds_len e.l
        generalize hLL : reds e.l = L at *
        have HRL := Hid.mk hLL
        clear hLL
        have HSF := Hid.mk hfin
        obtain ⟨M', Av, cv, hx, hM, hE, hb0, hb1, hb2, hK⟩ := hfin
        obtain ⟨⟨p0, p1, p2⟩, _, _, _⟩ := hb0.three
        obtain ⟨⟨z0, z1, z2⟩, f0, f1, f2⟩ := hb1.three
        obtain ⟨⟨c0, c1, c2⟩, d0, d1, d2⟩ := hb2.three
        by_cases h11 : e.op = 11
        · have h1 : L.length = 1 := by rw [hln]; exact fits_one hfit (by omega)
          obtain ⟨h, rfl⟩ := one_of h1
          obtain ⟨bl, ol, rfl⟩ := hx.place (by simp [mk_l])
          obtain ⟨Ah, ch, k0, k1, k2, hxh⟩ := hx.at_ 0 (by simp [mk_l])
          simp only [mk_l, List.getElem_cons_zero, Nat.zero_mul, Nat.add_zero] at k0 k1 k2 hxh
          have q0 := hM.cell k0
          have q1 := hM.cell k1
          have q2 := hM.cell k2
          have HC1 := Hid.mk (simpler1_calls wr c2 (by simp) q0)
          have hrh : h.right = true := by simpa using hrr
          clear k0 k1 k2
          have b11 : (e.op == 11) = true := by rw [beq_iff_eq]; omega
          by_cases hh : h.op = 11
          · have hfh : fits h.op h.s h.l.length = true := by have := hrh; rw [E.right_eq, Bool.and_eq_true] at this; exact this.1
            have hl1 := fits_one hfh (by omega)
            obtain ⟨y, hy⟩ := one_of hl1
            obtain ⟨bm, om, rfl⟩ := hxh.place (by omega)
            obtain ⟨Ay, cy, m0, m1, m2, hxy⟩ := hxh.at_ 0 (by omega)
            have hy0 : h.l[0]'(by omega) = y := by simp [hy]
            rw [hy0] at m0 m1 m2 hxy
            simp only [Nat.zero_mul, Nat.add_zero] at m0 m1 m2
            rw [hl1] at q2
            have w0 := hM.cell m0
            have w1 := hM.cell m1
            have w2 := hM.cell m2
            have ihl : (0 : Int) < (h.l.length : Int) := by omega
            have HE2 : Hid (e.red = y) := Hid.mk (by rw [HED.out, redOp, if_pos h11]; simp [hdE, hh, hy])
            have HF := Hid.mk (And.intro hxy (And.intro hM (And.intro hE (And.intro hb1 hK))))
            have g11 : (h.op == 11) = true := by rw [beq_iff_eq]; omega
            clear hx hM hE hb0 hb1 hb2 hK HED hrr hln hfit hxy m0 m1 m2 hy hy0 hl1 hfh hh h11 h1 hrh hxh
            go_wp2_with fail
            refine HC1.out.mono ?_
            rintro en w1 ⟨rfl, rfl⟩
            go_wp2_with fail
            obtain ⟨hxe, hM, hE, hb1, hK⟩ := HF.out
            obtain ⟨⟨r0, r1, r2⟩, _, _, _⟩ := (hb1.set3 (x' := .int .i64 y.op) (y' := .string (bs y.s)) (z' := .slice Ay (y.l.length) cy)).three
            refine bodyPost_ret (v := .agg #[.int .i64 y.op, .string (bs y.s), .slice Ay (y.l.length) cy]) (by simp [results, Tryz.results42, go_sem, r0, r1, r2]) rfl ?_
            rw [HE2.out]
            exact SEnd.of hxe hM hE hb1.out (by omega) hK
          · 
            have g11 : (h.op == 11) = false := by rw [beq_eq_false_iff_ne]; omega
            have HE2 : Hid (e.red = .mk e.op e.s [h]) := Hid.mk (by rw [HED.out, redOp]; simp [hdE, h11, hh])
            have HF := Hid.mk (And.intro hx (And.intro hM (And.intro hE (And.intro hb1 hK))))
            clear hx hM hE hb0 hb1 hb2 hK HED hrr hln hfit hrh h1 hxh hh h11
            go_wp2_with fail
            refine HC1.out.mono ?_
            rintro en w1 ⟨rfl, rfl⟩
            go_wp2_with fail
            obtain ⟨hxe, hM, hE, hb1, hK⟩ := HF.out
            obtain ⟨⟨r0, r1, r2⟩, _, _, _⟩ := (hb1.set3 (x' := .int .i64 e.op) (y' := .string (bs e.s)) (z' := .slice (some ⟨bl, ol, none⟩) (1) cv)).three
            refine bodyPost_ret (v := .agg #[.int .i64 e.op, .string (bs e.s), .slice (some ⟨bl, ol, none⟩) (1) cv]) (by simp [results, Tryz.results42, go_sem, r0, r1, r2]) rfl ?_
            rw [HE2.out]
            exact SEnd.of hxe hM hE hb1.out (by omega) hK
        by_cases h8 : e.op = 8
        · have h1 : L.length = 1 := by rw [hln]; exact fits_one hfit (by omega)
          obtain ⟨h, rfl⟩ := one_of h1
          obtain ⟨bl, ol, rfl⟩ := hx.place (by simp [mk_l])
          obtain ⟨Ah, ch, k0, k1, k2, hxh⟩ := hx.at_ 0 (by simp [mk_l])
          simp only [mk_l, List.getElem_cons_zero, Nat.zero_mul, Nat.add_zero] at k0 k1 k2 hxh
          have q0 := hM.cell k0
          have q1 := hM.cell k1
          have q2 := hM.cell k2
          have HC1 := Hid.mk (simpler1_calls wr c2 (by simp) q0)
          have hrh : h.right = true := by simpa using hrr
          clear k0 k1 k2
          have b11 : (e.op == 11) = false := by rw [beq_eq_false_iff_ne]; omega
          have b8 : (e.op == 8) = true := by rw [beq_iff_eq]; omega
          by_cases g8 : h.op = 8
          · 
            have g88 : (h.op == 8) = true := by rw [beq_iff_eq]; omega
            have HE2 : Hid (e.red = h) := Hid.mk (by rw [HED.out, redOp]; simp [hdE, h8, g8])
            have HF := Hid.mk (And.intro hxh (And.intro hM (And.intro hE (And.intro hb1 hK))))
            clear hx hM hE hb0 hb1 hb2 hK HED hrr hln hfit hrh h1 hxh g8 h8 h11
            go_wp2_with fail
            refine HC1.out.mono ?_
            rintro en w1 ⟨rfl, rfl⟩
            go_wp2_with fail
            obtain ⟨hxe, hM, hE, hb1, hK⟩ := HF.out
            obtain ⟨⟨r0, r1, r2⟩, _, _, _⟩ := (hb1.set3 (x' := .int .i64 h.op) (y' := .string (bs h.s)) (z' := .slice Ah (h.l.length) ch)).three
            refine bodyPost_ret (v := .agg #[.int .i64 h.op, .string (bs h.s), .slice Ah (h.l.length) ch]) (by simp [results, Tryz.results42, go_sem, r0, r1, r2]) rfl ?_
            rw [HE2.out]
            exact SEnd.of hxe hM hE hb1.out (by omega) hK
          by_cases g2 : h.op = 2
          · 
            have gg8 : (h.op == 8) = false := by rw [beq_eq_false_iff_ne]; omega
            have gg2 : (h.op == 2) = true := by rw [beq_iff_eq]; omega
            have HE2 : Hid (e.red = h) := Hid.mk (by rw [HED.out, redOp]; simp [hdE, h8, g2])
            have HF := Hid.mk (And.intro hxh (And.intro hM (And.intro hE (And.intro hb1 hK))))
            clear hx hM hE hb0 hb1 hb2 hK HED hrr hln hfit hrh h1 hxh g8 g2 h8 h11
            go_wp2_with fail
            refine HC1.out.mono ?_
            rintro en w1 ⟨rfl, rfl⟩
            go_wp2_with fail
            obtain ⟨hxe, hM, hE, hb1, hK⟩ := HF.out
            obtain ⟨⟨r0, r1, r2⟩, _, _, _⟩ := (hb1.set3 (x' := .int .i64 h.op) (y' := .string (bs h.s)) (z' := .slice Ah (h.l.length) ch)).three
            refine bodyPost_ret (v := .agg #[.int .i64 h.op, .string (bs h.s), .slice Ah (h.l.length) ch]) (by simp [results, Tryz.results42, go_sem, r0, r1, r2]) rfl ?_
            rw [HE2.out]
            exact SEnd.of hxe hM hE hb1.out (by omega) hK
          by_cases g9 : h.op = 9
          · 
            have gg8 : (h.op == 8) = false := by rw [beq_eq_false_iff_ne]; omega
            have gg2 : (h.op == 2) = false := by rw [beq_eq_false_iff_ne]; omega
            have gg9 : (h.op == 9) = true := by rw [beq_iff_eq]; omega
            have HE2 : Hid (e.red = .mk 8 [] h.l) := Hid.mk (by rw [HED.out, redOp]; simp [hdE, h8, g9])
            have HF := Hid.mk (And.intro (hxh.sign 8 []) (And.intro hM (And.intro hE (And.intro hb1 hK))))
            clear hx hM hE hb0 hb1 hb2 hK HED hrr hln hfit hrh h1 hxh g8 g2 g9 h8 h11
            go_wp2_with fail
            refine HC1.out.mono ?_
            rintro en w1 ⟨rfl, rfl⟩
            go_wp2_with fail
            obtain ⟨hxe, hM, hE, hb1, hK⟩ := HF.out
            obtain ⟨⟨r0, r1, r2⟩, _, _, _⟩ := (hb1.set3 (x' := .int .i64 8) (y' := .string (⟨#[]⟩)) (z' := .slice Ah (h.l.length) ch)).three
            refine bodyPost_ret (v := .agg #[.int .i64 8, .string (⟨#[]⟩), .slice Ah (h.l.length) ch]) (by simp [results, Tryz.results42, go_sem, r0, r1, r2]) rfl ?_
            rw [HE2.out]
            exact SEnd.of hxe hM hE hb1.out (by omega) hK
          by_cases g10 : h.op = 10
          · 
            have gg8 : (h.op == 8) = false := by rw [beq_eq_false_iff_ne]; omega
            have gg2 : (h.op == 2) = false := by rw [beq_eq_false_iff_ne]; omega
            have gg9 : (h.op == 9) = false := by rw [beq_eq_false_iff_ne]; omega
            have gg10 : (h.op == 10) = true := by rw [beq_iff_eq]; omega
            have HE2 : Hid (e.red = .mk 8 [] h.l) := Hid.mk (by rw [HED.out, redOp]; simp [hdE, h8, g10])
            have HF := Hid.mk (And.intro (hxh.sign 8 []) (And.intro hM (And.intro hE (And.intro hb1 hK))))
            clear hx hM hE hb0 hb1 hb2 hK HED hrr hln hfit hrh h1 hxh g8 g2 g9 g10 h8 h11
            go_wp2_with fail
            refine HC1.out.mono ?_
            rintro en w1 ⟨rfl, rfl⟩
            go_wp2_with fail
            obtain ⟨hxe, hM, hE, hb1, hK⟩ := HF.out
            obtain ⟨⟨r0, r1, r2⟩, _, _, _⟩ := (hb1.set3 (x' := .int .i64 8) (y' := .string (⟨#[]⟩)) (z' := .slice Ah (h.l.length) ch)).three
            refine bodyPost_ret (v := .agg #[.int .i64 8, .string (⟨#[]⟩), .slice Ah (h.l.length) ch]) (by simp [results, Tryz.results42, go_sem, r0, r1, r2]) rfl ?_
            rw [HE2.out]
            exact SEnd.of hxe hM hE hb1.out (by omega) hK
          have gg8 : (h.op == 8) = false := by rw [beq_eq_false_iff_ne]; omega
          have gg2 : (h.op == 2) = false := by rw [beq_eq_false_iff_ne]; omega
          have gg9 : (h.op == 9) = false := by rw [beq_eq_false_iff_ne]; omega
          have gg10 : (h.op == 10) = false := by rw [beq_eq_false_iff_ne]; omega
          have HE2 : Hid (e.red = .mk e.op e.s [h]) := Hid.mk (by rw [HED.out, redOp]; simp [hdE, h8, g8, g2, g9, g10])
          have HF := Hid.mk (And.intro hx (And.intro hM (And.intro hE (And.intro hb1 hK))))
          clear hx hM hE hb0 hb1 hb2 hK HED hrr hln hfit hrh h1 hxh g8 g2 g9 g10 h8 h11
          go_wp2_with fail
          refine HC1.out.mono ?_
          rintro en w1 ⟨rfl, rfl⟩
          go_wp2_with fail
          obtain ⟨hxe, hM, hE, hb1, hK⟩ := HF.out
          obtain ⟨⟨r0, r1, r2⟩, _, _, _⟩ := (hb1.set3 (x' := .int .i64 e.op) (y' := .string (bs e.s)) (z' := .slice (some ⟨bl, ol, none⟩) (1) cv)).three
          refine bodyPost_ret (v := .agg #[.int .i64 e.op, .string (bs e.s), .slice (some ⟨bl, ol, none⟩) (1) cv]) (by simp [results, Tryz.results42, go_sem, r0, r1, r2]) rfl ?_
          rw [HE2.out]
          exact SEnd.of hxe hM hE hb1.out (by omega) hK
        by_cases hop : e.op = 9
        · have h1 : L.length = 1 := by rw [hln]; exact fits_one hfit (by omega)
          obtain ⟨h, rfl⟩ := one_of h1
          obtain ⟨bl, ol, rfl⟩ := hx.place (by simp [mk_l])
          obtain ⟨Ah, ch, k0, k1, k2, hxh⟩ := hx.at_ 0 (by simp [mk_l])
          simp only [mk_l, List.getElem_cons_zero, Nat.zero_mul, Nat.add_zero] at k0 k1 k2 hxh
          have q0 := hM.cell k0
          have q1 := hM.cell k1
          have q2 := hM.cell k2
          have HC1 := Hid.mk (simpler1_calls wr c2 (by simp) q0)
          have hrh : h.right = true := by simpa using hrr
          clear k0 k1 k2
          have b11 : (e.op == 11) = false := by rw [beq_eq_false_iff_ne]; omega
          have b8 : (e.op == 8) = false := by rw [beq_eq_false_iff_ne]; omega
          have b9 : (e.op == 9) = true := by rw [beq_iff_eq]; omega
          by_cases g8 : h.op = 8
          · 
            have gg8 : (h.op == 8) = true := by rw [beq_iff_eq]; omega
            have HE2 : Hid (e.red = h) := Hid.mk (by rw [HED.out, redOp]; simp [hdE, hop, g8])
            have HF := Hid.mk (And.intro hxh (And.intro hM (And.intro hE (And.intro hb1 hK))))
            clear hx hM hE hb0 hb1 hb2 hK HED hrr hln hfit hrh h1 hxh g8 h11 h8 hop
            go_wp2_with fail
            refine HC1.out.mono ?_
            rintro en w1 ⟨rfl, rfl⟩
            go_wp2_with fail
            obtain ⟨hxe, hM, hE, hb1, hK⟩ := HF.out
            obtain ⟨⟨r0, r1, r2⟩, _, _, _⟩ := (hb1.set3 (x' := .int .i64 h.op) (y' := .string (bs h.s)) (z' := .slice Ah (h.l.length) ch)).three
            refine bodyPost_ret (v := .agg #[.int .i64 h.op, .string (bs h.s), .slice Ah (h.l.length) ch]) (by simp [results, Tryz.results42, go_sem, r0, r1, r2]) rfl ?_
            rw [HE2.out]
            exact SEnd.of hxe hM hE hb1.out (by omega) hK
          by_cases g9 : h.op = e.op
          · have gg8 : (h.op == 8) = false := by rw [beq_eq_false_iff_ne]; omega
            have ggo : (h.op == e.op) = true := by rw [beq_iff_eq]; omega
            have HE2 : Hid (e.red = h) := Hid.mk (by rw [HED.out, redOp]; simp [hdE, hop, g9])
            have HF := Hid.mk (And.intro hxh (And.intro hM (And.intro hE (And.intro hb1 hK))))
            clear hx hM hE hb0 hb1 hb2 hK HED hrr hln hfit hrh h1 hxh g8 g9 h11 h8 hop
            go_wp2_with fail
            refine HC1.out.mono ?_
            rintro en w1 ⟨rfl, rfl⟩
            go_wp2_with fail
            obtain ⟨hxe, hM, hE, hb1, hK⟩ := HF.out
            obtain ⟨⟨r0, r1, r2⟩, _, _, _⟩ := (hb1.set3 (x' := .int .i64 h.op) (y' := .string (bs h.s)) (z' := .slice Ah (h.l.length) ch)).three
            refine bodyPost_ret (v := .agg #[.int .i64 h.op, .string (bs h.s), .slice Ah (h.l.length) ch]) (by simp [results, Tryz.results42, go_sem, r0, r1, r2]) rfl ?_
            rw [HE2.out]
            exact SEnd.of hxe hM hE hb1.out (by omega) hK
          by_cases g2 : h.op = 2
          · have gg8 : (h.op == 8) = false := by rw [beq_eq_false_iff_ne]; omega
            have ggo : (h.op == e.op) = false := by rw [beq_eq_false_iff_ne]; omega
            have gg2 : (h.op == 2) = true := by rw [beq_iff_eq]; omega
            have HE2 : Hid (e.red = h) := Hid.mk (by rw [HED.out, redOp]; simp [hdE, hop, g2])
            have HF := Hid.mk (And.intro hxh (And.intro hM (And.intro hE (And.intro hb1 hK))))
            clear hx hM hE hb0 hb1 hb2 hK HED hrr hln hfit hrh h1 hxh g8 g9 g2 h11 h8 hop
            go_wp2_with fail
            refine HC1.out.mono ?_
            rintro en w1 ⟨rfl, rfl⟩
            go_wp2_with fail
            obtain ⟨hxe, hM, hE, hb1, hK⟩ := HF.out
            obtain ⟨⟨r0, r1, r2⟩, _, _, _⟩ := (hb1.set3 (x' := .int .i64 h.op) (y' := .string (bs h.s)) (z' := .slice Ah (h.l.length) ch)).three
            refine bodyPost_ret (v := .agg #[.int .i64 h.op, .string (bs h.s), .slice Ah (h.l.length) ch]) (by simp [results, Tryz.results42, go_sem, r0, r1, r2]) rfl ?_
            rw [HE2.out]
            exact SEnd.of hxe hM hE hb1.out (by omega) hK
          have gg8 : (h.op == 8) = false := by rw [beq_eq_false_iff_ne]; omega
          have ggo : (h.op == e.op) = false := by rw [beq_eq_false_iff_ne]; omega
          have gg2 : (h.op == 2) = false := by rw [beq_eq_false_iff_ne]; omega
          have g9' : ¬ h.op = 9 := by omega
          have HE2 : Hid (e.red = .mk e.op e.s [h]) := Hid.mk (by rw [HED.out, redOp]; simp [hdE, hop, g8, g9', g2])
          have HF := Hid.mk (And.intro hx (And.intro hM (And.intro hE (And.intro hb1 hK))))
          clear hx hM hE hb0 hb1 hb2 hK HED hrr hln hfit hrh h1 hxh g8 g9 g9' g2 h11 h8 hop
          go_wp2_with fail
          refine HC1.out.mono ?_
          rintro en w1 ⟨rfl, rfl⟩
          go_wp2_with fail
          obtain ⟨hxe, hM, hE, hb1, hK⟩ := HF.out
          obtain ⟨⟨r0, r1, r2⟩, _, _, _⟩ := (hb1.set3 (x' := .int .i64 e.op) (y' := .string (bs e.s)) (z' := .slice (some ⟨bl, ol, none⟩) (1) cv)).three
          refine bodyPost_ret (v := .agg #[.int .i64 e.op, .string (bs e.s), .slice (some ⟨bl, ol, none⟩) (1) cv]) (by simp [results, Tryz.results42, go_sem, r0, r1, r2]) rfl ?_
          rw [HE2.out]
          exact SEnd.of hxe hM hE hb1.out (by omega) hK
        have h9' := hop
        clear hop
        by_cases hop : e.op = 10
        · have h1 : L.length = 1 := by rw [hln]; exact fits_one hfit (by omega)
          obtain ⟨h, rfl⟩ := one_of h1
          obtain ⟨bl, ol, rfl⟩ := hx.place (by simp [mk_l])
          obtain ⟨Ah, ch, k0, k1, k2, hxh⟩ := hx.at_ 0 (by simp [mk_l])
          simp only [mk_l, List.getElem_cons_zero, Nat.zero_mul, Nat.add_zero] at k0 k1 k2 hxh
          have q0 := hM.cell k0
          have q1 := hM.cell k1
          have q2 := hM.cell k2
          have HC1 := Hid.mk (simpler1_calls wr c2 (by simp) q0)
          have hrh : h.right = true := by simpa using hrr
          clear k0 k1 k2
          have b11 : (e.op == 11) = false := by rw [beq_eq_false_iff_ne]; omega
          have b8 : (e.op == 8) = false := by rw [beq_eq_false_iff_ne]; omega
          have b9 : (e.op == 9) = false := by rw [beq_eq_false_iff_ne]; omega
          have b10 : (e.op == 10) = true := by rw [beq_iff_eq]; omega
          by_cases g8 : h.op = 8
          · 
            have gg8 : (h.op == 8) = true := by rw [beq_iff_eq]; omega
            have HE2 : Hid (e.red = h) := Hid.mk (by rw [HED.out, redOp]; simp [hdE, hop, g8])
            have HF := Hid.mk (And.intro hxh (And.intro hM (And.intro hE (And.intro hb1 hK))))
            clear h9' hx hM hE hb0 hb1 hb2 hK HED hrr hln hfit hrh h1 hxh g8 h11 h8 hop
            go_wp2_with fail
            refine HC1.out.mono ?_
            rintro en w1 ⟨rfl, rfl⟩
            go_wp2_with fail
            obtain ⟨hxe, hM, hE, hb1, hK⟩ := HF.out
            obtain ⟨⟨r0, r1, r2⟩, _, _, _⟩ := (hb1.set3 (x' := .int .i64 h.op) (y' := .string (bs h.s)) (z' := .slice Ah (h.l.length) ch)).three
            refine bodyPost_ret (v := .agg #[.int .i64 h.op, .string (bs h.s), .slice Ah (h.l.length) ch]) (by simp [results, Tryz.results42, go_sem, r0, r1, r2]) rfl ?_
            rw [HE2.out]
            exact SEnd.of hxe hM hE hb1.out (by omega) hK
          by_cases g9 : h.op = e.op
          · have gg8 : (h.op == 8) = false := by rw [beq_eq_false_iff_ne]; omega
            have ggo : (h.op == e.op) = true := by rw [beq_iff_eq]; omega
            have HE2 : Hid (e.red = h) := Hid.mk (by rw [HED.out, redOp]; simp [hdE, hop, g9])
            have HF := Hid.mk (And.intro hxh (And.intro hM (And.intro hE (And.intro hb1 hK))))
            clear h9' hx hM hE hb0 hb1 hb2 hK HED hrr hln hfit hrh h1 hxh g8 g9 h11 h8 hop
            go_wp2_with fail
            refine HC1.out.mono ?_
            rintro en w1 ⟨rfl, rfl⟩
            go_wp2_with fail
            obtain ⟨hxe, hM, hE, hb1, hK⟩ := HF.out
            obtain ⟨⟨r0, r1, r2⟩, _, _, _⟩ := (hb1.set3 (x' := .int .i64 h.op) (y' := .string (bs h.s)) (z' := .slice Ah (h.l.length) ch)).three
            refine bodyPost_ret (v := .agg #[.int .i64 h.op, .string (bs h.s), .slice Ah (h.l.length) ch]) (by simp [results, Tryz.results42, go_sem, r0, r1, r2]) rfl ?_
            rw [HE2.out]
            exact SEnd.of hxe hM hE hb1.out (by omega) hK
          by_cases g2 : h.op = 2
          · have gg8 : (h.op == 8) = false := by rw [beq_eq_false_iff_ne]; omega
            have ggo : (h.op == e.op) = false := by rw [beq_eq_false_iff_ne]; omega
            have gg2 : (h.op == 2) = true := by rw [beq_iff_eq]; omega
            have HE2 : Hid (e.red = h) := Hid.mk (by rw [HED.out, redOp]; simp [hdE, hop, g2])
            have HF := Hid.mk (And.intro hxh (And.intro hM (And.intro hE (And.intro hb1 hK))))
            clear h9' hx hM hE hb0 hb1 hb2 hK HED hrr hln hfit hrh h1 hxh g8 g9 g2 h11 h8 hop
            go_wp2_with fail
            refine HC1.out.mono ?_
            rintro en w1 ⟨rfl, rfl⟩
            go_wp2_with fail
            obtain ⟨hxe, hM, hE, hb1, hK⟩ := HF.out
            obtain ⟨⟨r0, r1, r2⟩, _, _, _⟩ := (hb1.set3 (x' := .int .i64 h.op) (y' := .string (bs h.s)) (z' := .slice Ah (h.l.length) ch)).three
            refine bodyPost_ret (v := .agg #[.int .i64 h.op, .string (bs h.s), .slice Ah (h.l.length) ch]) (by simp [results, Tryz.results42, go_sem, r0, r1, r2]) rfl ?_
            rw [HE2.out]
            exact SEnd.of hxe hM hE hb1.out (by omega) hK
          have gg8 : (h.op == 8) = false := by rw [beq_eq_false_iff_ne]; omega
          have ggo : (h.op == e.op) = false := by rw [beq_eq_false_iff_ne]; omega
          have gg2 : (h.op == 2) = false := by rw [beq_eq_false_iff_ne]; omega
          have g9' : ¬ h.op = 10 := by omega
          have HE2 : Hid (e.red = .mk e.op e.s [h]) := Hid.mk (by rw [HED.out, redOp]; simp [hdE, hop, g8, g9', g2])
          have HF := Hid.mk (And.intro hx (And.intro hM (And.intro hE (And.intro hb1 hK))))
          clear h9' hx hM hE hb0 hb1 hb2 hK HED hrr hln hfit hrh h1 hxh g8 g9 g9' g2 h11 h8 hop
          go_wp2_with fail
          refine HC1.out.mono ?_
          rintro en w1 ⟨rfl, rfl⟩
          go_wp2_with fail
          obtain ⟨hxe, hM, hE, hb1, hK⟩ := HF.out
          obtain ⟨⟨r0, r1, r2⟩, _, _, _⟩ := (hb1.set3 (x' := .int .i64 e.op) (y' := .string (bs e.s)) (z' := .slice (some ⟨bl, ol, none⟩) (1) cv)).three
          refine bodyPost_ret (v := .agg #[.int .i64 e.op, .string (bs e.s), .slice (some ⟨bl, ol, none⟩) (1) cv]) (by simp [results, Tryz.results42, go_sem, r0, r1, r2]) rfl ?_
          rw [HE2.out]
          exact SEnd.of hxe hM hE hb1.out (by omega) hK
        have h9 : ¬ (e.op = 9 ∨ e.op = 10) := by omega
        clear h9' hop
        by_cases h4 : e.op = 4
        · have hf1 := (fits_many hfit (Or.inl h4)).1
          have hf2 := (fits_many hfit (Or.inl h4)).2.1
          clear hx hM hE hb0 hb1 hb2 hK p0 p1 p2 z0 z1 z2 f0 f1 f2 c0 c1 c2 d0 d1 d2
          obtain ⟨M1, ps, v, g1, g2, hown, hv, hav, hM, hE, hb0, hb1, hb2, hK⟩ := HS.out
          rw [List.take_length, HRL.out] at g1
          obtain ⟨g, cap, rfl, hcap⟩ := ownb_some hown (by omega)
          have hge : w.heap.size + 3 ≤ g := ownb_base hown rfl
          have hsl : Sl wr M1 24 3 g ps.length cap (flat ps) := by rw [g2]; exact Sl.mk (by have := ownb_mono hown (Nat.zero_le _); exact this) (hv g rfl)
          have HD : Hid (Calls Tryz.prog 82 #[.slice (some ⟨g, 0, none⟩) e.l.length cap, .func (.func 83) #[] #[]] wr (DelEnd M1 g cap ps wr)) := Hid.mk (by have := Del_calls wr hsl (by omega) (by omega); rw [g2] at this; exact this)
          have hkl : (keep ps).length ≤ e.l.length := by rw [← g2]; exact keep_len ps
          have HGG := Hid.mk g2
          have hE2 : e.red = shr 2 (.mk e.op e.s ((keep ps).map (·.1))) := by
            rw [HED.out, redOp, if_neg h11, if_neg h8, if_neg h9, if_pos h4, ← g1, List.filter_map]
            rfl
          have HE2 := Hid.mk hE2
          obtain ⟨⟨p0, p1, p2⟩, _, _, _⟩ := hb0.three
          obtain ⟨⟨z0, z1, z2⟩, f0, f1, f2⟩ := hb1.three
          obtain ⟨⟨c0, c1, c2⟩, d0, d1, d2⟩ := hb2.three
          have HK4 := Hid.mk (And.intro hM (And.intro hE (And.intro hb1 (And.intro hb2 (And.intro hK (And.intro hav (hv g rfl)))))))
          have b11 : (e.op == 11) = false := by rw [beq_eq_false_iff_ne]; omega
          have b8 : (e.op == 8) = false := by rw [beq_eq_false_iff_ne]; omega
          have b9 : (e.op == 9) = false := by rw [beq_eq_false_iff_ne]; omega
          have b10 : (e.op == 10) = false := by rw [beq_eq_false_iff_ne]; omega
          have b4 : (e.op == 4) = true := by rw [beq_iff_eq]; omega
          clear hM hE hb0 hb1 hb2 hK HED hrr hln hfit g1 hE2 h11 h8 h9 h4 hsl hav hv hown g2
          go_wp2_with fail
          refine HD.out.mono ?_
          rintro en w1 ⟨rfl, hs1, hk1⟩
          obtain ⟨hM, hE, hb1, hb2, hK, hav, hvg⟩ := HK4.out
          have hb1' := hb1.same hk1 (by simp; omega)
          have hb2' := hb2.same hk1 (by simp; omega)
          have hkS : Kp [w.heap.size + 2] w1 (w1.setCell ⟨w.heap.size + 2, 2, none⟩ (.slice (some ⟨g, 0, none⟩) (keep ps).length cap)) := (Kp.refl _ _).setCell (.inl (by simp)) _
          have hM1 := hM.kp hk1 (by simp [hvg])
          have hM2 := hM1.kp hkS (by simp [hb2'.out])
          obtain ⟨M2, x1, x2, x3, x4⟩ := (hs1.same hkS (by simp; omega)).node rfl hM2 hav.keep e.op e.s w.heap.size (by omega)
          have HX : Hid (Calls Tryz.prog 84 #[.agg #[.int .i64 e.op, .string (bs e.s), .slice (some ⟨g, 0, none⟩) (keep ps).length cap], .int .i64 2] (w1.setCell ⟨w.heap.size + 2, 2, none⟩ (.slice (some ⟨g, 0, none⟩) (keep ps).length cap)) (XEnd M2 (shr 2 (.mk e.op e.s ((keep ps).map (·.1)))) (w1.setCell ⟨w.heap.size + 2, 2, none⟩ (.slice (some ⟨g, 0, none⟩) (keep ps).length cap)))) := Hid.mk (by
            have := shrunk_calls (none := 2) x1 (by rw [mk_l, List.length_map]; omega) _ x2
            rw [mk_l, List.length_map] at this
            exact this)
          clear c0 c1 c2 d0 d1 d2 z0 z1 z2 f0 f1 f2 p0 p1 p2
          obtain ⟨⟨c0, c1, c2⟩, d0, d1, d2⟩ := hb2'.three
          have hbz := hb1'.far (p := ⟨w.heap.size + 2, 2, none⟩) (by simp) (.slice (some ⟨g, 0, none⟩) (keep ps).length cap)
          have HF := Hid.mk (And.intro x2 (And.intro (hE.trans x3 (Nat.le_refl _)) (And.intro (And.intro hbz (x4 _ (by omega) hb1.out)) ((hK.inner hk1 (fun x hx => .inr (by simp at hx; omega))).inner hkS (fun x hx => .inr (by simp at hx; omega))))))
          clear hM hE hb1 hb2 hK hav hvg hb1' hkS hM1 hM2 x1 x2 x3 x4 hbz hs1 hk1
          have HB2 := Hid.mk (hb2'.set 2 (.slice (some ⟨g, 0, none⟩) (keep ps).length cap))
          clear hb2' c0 c1 d0 d1
          go_upto_region 25 with fail
          clear c2 d2
          obtain ⟨⟨c0, c1, c2⟩, _⟩ := HB2.out.three
          clear HB2
          generalize w1.setCell ⟨w.heap.size + 2, 2, none⟩ (.slice (some ⟨g, 0, none⟩) (keep ps).length cap) = w2 at *
          go_wp2_with fail
          refine HX.out.mono ?_
          rintro en w3 ⟨A3, c3, rfl, hx3, hk3⟩
          obtain ⟨x2, hE, ⟨hbz, hbo⟩, hK⟩ := HF.out
          have hbz3 := hbz.same hk3 (by simp)
          obtain ⟨_, f0, f1, f2⟩ := hbz3.three
          obtain ⟨⟨z0, z1, z2⟩, _⟩ := hbz3.three
          have HX3 := Hid.mk (And.intro hx3 (And.intro hk3 hbz3))
          clear x2 hE hbz hbo hK hbz3 hx3 hk3
          rw [← HE2.out]
          rw [← HE2.out] at HX3
          go_wp2_with fail
          obtain ⟨x2, hE, ⟨hbz, hbo⟩, hK⟩ := HF.out
          obtain ⟨hx3, hk3, hbz3⟩ := HX3.out
          obtain ⟨⟨r0, r1, r2⟩, _, _, _⟩ := (hbz3.set3 (x' := .int .i64 e.red.op) (y' := .string (bs e.red.s)) (z' := .slice A3 e.red.l.length c3)).three
          refine bodyPost_ret (v := .agg #[.int .i64 e.red.op, .string (bs e.red.s), .slice A3 e.red.l.length c3]) (by simp [results, Tryz.results42, go_sem, r0, r1, r2]) rfl ?_
          exact SEnd.of hx3 (x2.kp hk3 (by simp)) hE hbo (by omega) (hK.trans hk3)
        by_cases h5 : e.op = 5
        · have hf1 := (fits_many hfit (Or.inr h5)).1
          have hf2 := (fits_many hfit (Or.inr h5)).2.1
          have hL1 : 2 ≤ L.length := by omega
          have hL2 : L.length ≤ 40 := by omega
          have hE2 : e.red = shr 3 (.mk e.op e.s (orL [] L)) := by rw [HED.out, redOp, if_neg h11, if_neg h8, if_neg h9, if_neg h4, if_pos h5]
          have HE2 := Hid.mk hE2
          obtain ⟨bl, ol, rfl⟩ := hx.place (by rw [mk_l]; omega)
          have HMB : Hid (∀ b, wr.heap.size ≤ b → M' b = none) := Hid.mk (fun b hb => hM.ge hb)
          have hsL : sizes L ≤ sizes e.l := by rw [← HRL.out]; exact (reds_ok (fun x _ hr => red_ok x.size x (Nat.le_refl _) hr) (List.all_eq_true.2 HRK.out)).1
          have HX := Hid.mk (And.intro hx (And.intro hM (And.intro hE (And.intro hb1 (And.intro hb2 hK)))))
          have b11 : (e.op == 11) = false := by rw [beq_eq_false_iff_ne]; omega
          have b8 : (e.op == 8) = false := by rw [beq_eq_false_iff_ne]; omega
          have b9 : (e.op == 9) = false := by rw [beq_eq_false_iff_ne]; omega
          have b10 : (e.op == 10) = false := by rw [beq_eq_false_iff_ne]; omega
          have b4 : (e.op == 4) = false := by rw [beq_eq_false_iff_ne]; omega
          have b5 : (e.op == 5) = true := by rw [beq_iff_eq]; omega
          have HL0 : Hid (OI wr M' L 0 (.slice none 0 0) wr) := Hid.mk ⟨[], by simp [orL], ⟨rfl, .inl ⟨rfl, rfl⟩⟩, (fun j hj => by simp at hj), Kp.refl _ _, hM⟩
          have hlw : w.heap.size + 2 < wr.heap.size := hb2.lt
          clear hx hM hE hb0 hb1 hb2 hK HED hrr hln hfit hE2 h11 h8 h9 h4 h5 hj hkk hnlt hlt HSF HS HRL
          go_wp2_with fail
          clear p0 p1 p2 z0 z1 z2 f0 f1 f2 c0 c1 c2 d0 d1 d2 b11 b8 b9 b10 b4 b5
          obtain ⟨w0, hw0⟩ : ∃ w0, w0 = wr := ⟨_, rfl⟩
          subst hw0
          go_loopg [9, 109] L.length (fun kk v9 v wy => ∃ j : Nat, j ≤ L.length ∧ kk = L.length - j ∧ v = .int .i64 (j : Nat) ∧ Hid (OI w0 M' L j v9 wy))
          case atStart => exact ⟨0, Nat.zero_le _, by simp, rfl, HL0⟩
          case round =>
            clear HL0
            obtain ⟨j, hj, hkk, rfl, HO⟩ := hrel
            by_cases hlt : j < L.length
            · obtain ⟨ps, g1, g2, g3, g4, g5⟩ := HO.out
              obtain ⟨Ay, cy, k0, k1, k2, hxy⟩ := HX.out.1.at_ j hlt
              simp only [mk_l] at k0 k1 k2 hxy
              have q0 := g5.cell k0
              have q1 := g5.cell k1
              have q2 := g5.cell k2
              have hjs := size_mem (List.getElem_mem hlt)
              have hbn := Box.new g5 #[.int .i64 L[j].op, .string (bs L[j].s), .slice Ay L[j].l.length cy] 24
              obtain ⟨⟨b0, b1, b2⟩, _⟩ := hbn.three
              have HAS := Hid.mk (HO.out.ask HMB.out hlt hxy (by omega) (by omega))
              have HSK := Hid.mk (fun (w' : World) (k : Kp [] (wr.alloc (.cells #[.int .i64 L[j].op, .string (bs L[j].s), .slice Ay L[j].l.length cy] 24)) w') => HO.out.skip hlt (((Kp.refl _ _).alloc _).trans k))
              by_cases h3 : L[j].op = 3
              · have n3 : (L[j].op != 3) = false := by rw [bne_eq_false_iff_eq]; exact h3
                have HR5 := Hid.mk (HSK.out _ (Kp.refl _ _) (.inl h3))
                clear h3 g1 g2 g3 g4 g5 k0 k1 k2 hxy hbn
                go_wp2_with fail
                go_roundg (L.length - (j + 1))
                case measure => omega
                case rel => exact ⟨j + 1, by omega, rfl, by go_num, HR5⟩
              · have n3 : (L[j].op != 3) = true := by rw [bne_iff_ne]; exact h3
                cases ha : (orL [] (L.take j)).any (fun y => same L[j] y) with
                | true =>
                  rw [ha] at HAS
                  have HR5 := Hid.mk (fun w' k => HSK.out w' k (.inr ha))
                  clear h3 ha g1 g2 g3 g4 g5 k0 k1 k2 hxy hbn HSK
                  go_wp2_with fail
                  refine HAS.out.mono ?_
                  rintro en w5 ⟨rfl, hk5⟩
                  have HR6 := Hid.mk (HR5.out _ hk5)
                  clear hk5
                  go_wp2_with fail
                  go_roundg (L.length - (j + 1))
                  case measure => omega
                  case rel => exact ⟨j + 1, by omega, rfl, by go_num, HR6⟩
                | false =>
                  rw [ha] at HAS
                  have hnb : ¬ (L[j].op = 3 ∨ (orL [] (L.take j)).any (fun y => same L[j] y) = true) := by rw [ha]; simp [h3]
                  have HNB := Hid.mk hnb
                  have HGS := Hid.mk (And.intro g1 (And.intro g2 (And.intro g3 (And.intro g4 (And.intro g5 hxy)))))
                  have HBN := Hid.mk hbn
                  have hpl : ps.length ≤ 1000 := by
                    obtain ⟨m, hm, hsub⟩ := orL_sub (L.take j) []
                    have e1 : ps.length = (orL [] (L.take j)).length := by rw [← g1]; simp
                    have e2 := hsub.length_le
                    rw [e1, hm]
                    simp at e2 ⊢
                    omega
                  have hbg : (ps.length + 1 ≤ maxLen) ∧ (ps.length + 1) * 48 ≤ 140737488355328 := by unfold maxLen; omega
                  have HBG := Hid.mk hbg
                  have HBS : Hid (w0.heap.size ≤ wr.heap.size) := Hid.mk g4.size
                  clear h3 ha hnb g1 g2 g3 g4 g5 k0 k1 k2 hxy hbn HSK hbg
                  go_wp2_with fail
                  refine HAS.out.mono ?_
                  rintro en w5 ⟨rfl, hk5⟩
                  have hk6 : Kp [] wr w5 := ((Kp.refl _ _).alloc _).trans hk5
                  obtain ⟨⟨b0, b1, b2⟩, _⟩ := (HBN.out.same hk5 (by simp)).three
                  have HK6 := Hid.mk hk6
                  clear hk5 hk6
                  go_wp2_with (at_builtin; go_must (refine wpList_append_lies _ rfl (.tmp 122) (.tmp 124) 22 rfl w0.heap.size 24 i0 _ 3 48 Tryz.underlying22 HI.out.1 HI.out.2.1 HI.out.2.2.1 HI.out.2.2.2 rfl (by omega) u9 ps.length (flat ps) rfl (ownb_alloc (ownb_keep HGS.out.2.1 HK6.out) _) ⟨w5.heap.size, 0, none⟩ 1 1 [.int .i64 L[j].op, .string (bs L[j].s), .slice Ay L[j].l.length cy] rfl rfl (three_cells (heap_alloc_new _ _)) (three_one _ _ _ _ _) Nat.one_pos HBG.out.1 HBG.out.2 (Nat.le_trans HBS.out (Nat.le_trans HK6.out.size (by simp))) _ rfl ?_); intro g9 cap9 w9 hown9 hgr9 hat9 hlt9)
                  go_roundg (L.length - (j + 1))
                  case measure => omega
                  case rel =>
                    obtain ⟨g1, g2, g3, g4, g5, hxy⟩ := HGS.out
                    refine ⟨j + 1, by omega, rfl, by go_num, Hid.mk ?_⟩
                    exact OI.push g1 g2 g3 g4 g5 HMB.out hlt hxy HNB.out (HK6.out.alloc _) hown9 hgr9
            · obtain rfl : j = L.length := by omega
              have hnlt : ¬ ((L.length : Int) < (L.length : Int)) := by omega
              obtain ⟨M2, A2, c2, rfl, x1, x2, x3⟩ := HO.out.node HMB.out e.op e.s
              rw [List.take_length] at x1
              obtain ⟨_, hM, hE, hb1, hb2, hK⟩ := HX.out
              have hko : Kp [] w0 wr := by obtain ⟨_, _, _, _, g4, _⟩ := HO.out; exact g4
              have hbz := hb1.same hko (by simp)
              have hbx := hb2.same hko (by simp)
              have hkS : Kp [w.heap.size + 2] wr (wr.setCell ⟨w.heap.size + 2, 2, none⟩ (.slice A2 (orL [] L).length c2)) := (Kp.refl _ _).setCell (.inl (by simp)) _
              have hM2 := x2.kp hkS (by simp [x3.no hb2.out (by omega)])
              have HXX : Hid (Calls Tryz.prog 84 #[.agg #[.int .i64 e.op, .string (bs e.s), .slice A2 (orL [] L).length c2], .int .i64 3] (wr.setCell ⟨w.heap.size + 2, 2, none⟩ (.slice A2 (orL [] L).length c2)) (XEnd M2 (shr 3 (.mk e.op e.s (orL [] L))) (wr.setCell ⟨w.heap.size + 2, 2, none⟩ (.slice A2 (orL [] L).length c2)))) := Hid.mk (shrunk_calls (none := 3) x1 (by
                rw [mk_l]
                obtain ⟨m, hm, hsub⟩ := orL_sub L []
                have e2 := hsub.length_le
                rw [hm]
                simp at e2 ⊢
                omega) _ hM2)
              have hbz2 := hbz.far (p := ⟨w.heap.size + 2, 2, none⟩) (by simp) (.slice A2 (orL [] L).length c2)
              have HF := Hid.mk (And.intro hM2 (And.intro (hE.trans (x3.low (by omega)) (Nat.le_refl _)) (And.intro (And.intro hbz2 (x3.no hb1.out (by omega))) ((hK.trans hko).inner hkS (fun x hx => .inr (by simp at hx; omega))))))
              have HB2 := Hid.mk (hbx.set 2 (.slice A2 (orL [] L).length c2))
              obtain ⟨_, d0, d1, d2⟩ := hbx.three
              have y2 := hbx.cell 2
              rw [List.take_length]
              clear hM hE hb1 hb2 hK hko hbz hbx hkS hM2 x1 x2 x3 hbz2 d0 d1 hj hkk hlt HO
              go_upto_region 35 with fail
              clear d2 y2
              obtain ⟨⟨c0, c1, c2'⟩, _⟩ := HB2.out.three
              clear HB2
              generalize wr.setCell ⟨w.heap.size + 2, 2, none⟩ (.slice A2 (orL [] L).length c2) = w2 at *
              go_wp2_with fail
              refine HXX.out.mono ?_
              rintro en w3 ⟨A3, c3, rfl, hx3, hk3⟩
              obtain ⟨x2, hE, ⟨hbz, hbo⟩, hK⟩ := HF.out
              have hbz3 := hbz.same hk3 (by simp)
              obtain ⟨_, f0, f1, f2⟩ := hbz3.three
              obtain ⟨⟨z0, z1, z2⟩, _⟩ := hbz3.three
              have HX3 := Hid.mk (And.intro hx3 (And.intro hk3 hbz3))
              clear x2 hE hbz hbo hK hbz3 hx3 hk3
              rw [← HE2.out]
              rw [← HE2.out] at HX3
              go_wp2_with fail
              obtain ⟨x2, hE, ⟨hbz, hbo⟩, hK⟩ := HF.out
              obtain ⟨hx3, hk3, hbz3⟩ := HX3.out
              obtain ⟨⟨r0, r1, r2⟩, _, _, _⟩ := (hbz3.set3 (x' := .int .i64 e.red.op) (y' := .string (bs e.red.s)) (z' := .slice A3 e.red.l.length c3)).three
              refine bodyPost_ret (v := .agg #[.int .i64 e.red.op, .string (bs e.red.s), .slice A3 e.red.l.length c3]) (by simp [results, Tryz.results42, go_sem, r0, r1, r2]) rfl ?_
              exact SEnd.of hx3 (x2.kp hk3 (by simp)) hE hbo (by omega) (hK.trans hk3)
        · 
          have b11 : (e.op == 11) = false := by rw [beq_eq_false_iff_ne]; omega
          have b8 : (e.op == 8) = false := by rw [beq_eq_false_iff_ne]; omega
          have b9 : (e.op == 9) = false := by rw [beq_eq_false_iff_ne]; omega
          have b10 : (e.op == 10) = false := by rw [beq_eq_false_iff_ne]; omega
          have b4 : (e.op == 4) = false := by rw [beq_eq_false_iff_ne]; omega
          have b5 : (e.op == 5) = false := by rw [beq_eq_false_iff_ne]; omega
          have HE2 : Hid (e.red = .mk e.op e.s L) := Hid.mk (by rw [HED.out, redOp, if_neg h11, if_neg h8, if_neg h9, if_neg h4, if_neg h5])
          have HF := Hid.mk (And.intro hx (And.intro hM (And.intro hE (And.intro hb1 hK))))
          clear hx hM hE hb0 hb1 hb2 hK HED hrr hln hfit h11 h8 h9 h4 h5
          go_wp2_with fail
          obtain ⟨hxe, hM, hE, hb1, hK⟩ := HF.out
          obtain ⟨⟨r0, r1, r2⟩, _, _, _⟩ := (hb1.set3 (x' := .int .i64 e.op) (y' := .string (bs e.s)) (z' := .slice Av (L.length) cv)).three
          refine bodyPost_ret (v := .agg #[.int .i64 e.op, .string (bs e.s), .slice Av (L.length) cv]) (by simp [results, Tryz.results42, go_sem, r0, r1, r2]) rfl ?_
          rw [HE2.out]
          exact SEnd.of hxe hM hE hb1.out (by omega) hK
end Go.Proofs.YtgdnhlckodhhgaaGreatDoor
