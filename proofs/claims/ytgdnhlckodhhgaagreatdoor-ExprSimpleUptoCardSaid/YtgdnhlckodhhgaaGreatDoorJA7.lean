/-
  The program's reader: atoms.
-/
import Derived.Test.YtgdnhlckodhhgaaGreatDoorJA6
namespace Go.Proofs.YtgdnhlckodhhgaaGreatDoor
open Go.RowKit
set_option linter.unusedVariables false
/-- An atom without nodes: the reader goes on, and the node is stored into the result's box. -/
theorem leaf_end {w w2 : World} {M : Heap} {g n : Nat} {l r : Bs} {x y z : Value} {q : Int} (op : Int) (s : Bs) (hgw : g < w.heap.size) (hb : Box w2 M w.heap.size #[x, y, z] 24) (hR : Rd w2 M g l (sk r)) (hM : Mem w2 M) (hK : Kp [g] w w2)
    (hn : n ≤ (sk r).length) (sb : ByteArray) (hsb : sb = bs s) (hq : q = ((at_ l (sk r) + n : Nat) : Int)) :
    let W := (((w2.setCell ⟨g, 1, none⟩ (.int .i64 q)).setCell ⟨w.heap.size, 0, none⟩ (.int .i64 op)).setCell ⟨w.heap.size, 1, none⟩ (.string sb)).setCell ⟨w.heap.size, 2, none⟩ (.slice none 0 0)
    (W.cell? ⟨w.heap.size, 0, none⟩ = some (.int .i64 op) ∧ W.cell? ⟨w.heap.size, 1, none⟩ = some (.string sb) ∧ W.cell? ⟨w.heap.size, 2, none⟩ = some (.slice none 0 0)) ∧
      GEnd w M g l (.ok (.mk op s [], (sk r).drop n)) (.returned (.agg #[.int .i64 op, .string sb, .slice none 0 0])) W := by
  subst hsb
  intro W
  have hk1 : Kp [g] w2 (w2.setCell ⟨g, 1, none⟩ (.int .i64 q)) := (Kp.refl [g] w2).setCell (.inl (by simp)) _
  have hR1 : Rd (w2.setCell ⟨g, 1, none⟩ (.int .i64 q)) M g l ((sk r).drop n) := by
    subst hq
    refine Rd.mk' (hR.box.set 1 _) ((List.drop_suffix _ _).trans hR.suf) ?_
    have := hR.suf.length_le
    simp [at_]; omega
  have hb1 := hb.same hk1 (by simp; omega)
  have hM1 := hM.kp hk1 (by simpa using hR.box.out)
  have hb3 := hb1.set3 (x' := .int .i64 op) (y' := .string (bs s)) (z' := .slice none 0 0)
  have hk3 : Kp [w.heap.size] (w2.setCell ⟨g, 1, none⟩ (.int .i64 q)) W := (Kp.refl _ _).set3 (.inl (by simp))
  exact ⟨hb3.three.1, (hK.trans hk1).inner hk3 (by simp), none, 0, M, rfl, ExV.leaf _ _ _ _ _, hM1.kp hk3 (by simpa using hb1.out), Ext.refl _ _, hR1.same hk3 (by simp; omega)⟩
theorem G8 (k n : Nat) (r : Bs) : G (k + 1) (.lv (n + 8) r) = lf (token r) fun (t, r1) => if begT t = false then some (.error r1) else match leaf t with
      | some e => some (.ok (e, r1.drop t.length))
      | none => bx (G k (.lv 0 (r1.drop 1))) fun (a, r2) => lf (takeT [93] r2) fun (b, r3) => if b = false then some (.error r3) else some (.ok (a, r3)) := by simp only [G]; rfl
set_option maxRecDepth 100000 in
set_option maxHeartbeats 8000000 in
theorem atom_spec {k g : Nat} {l r : Bs} {w : World} {M : Heap} {x : Ex (E × Bs)} (hS : ∀ k', k' ≤ k → LvSpec 63 0 k')
    (hR : Rd w M g l r) (hM : Mem w M) (hl : l.length ≤ 6000) (hx : G (k + 1) (.lv 8 r) = some x) :
    Calls Tryz.prog 266 #[.pointer (some ⟨g, 0, none⟩)] w (GEnd w M g l x) := by
  have hgw : g < w.heap.size := hR.box.lt
  cases htk : tk (sk r) with
  | none =>
    rw [G8 k 0, token_none htk] at hx
    simp only [lf, Option.some.injEq] at hx
    subst hx
    have H3 := Hid.mk htk
    clear htk
    go_enter Tryz.func266, Tryz.ntmps266
    go_wp2_with fail
    refine (token_no (hR.alloc _) hl H3.out).mono ?_
    rintro e w2 ⟨rfl, h4, hk2⟩
    go_wp2_with fail
    exact ⟨rfl, ((Kp.refl _ _).alloc _).trans hk2, rfl⟩
  | some t =>
    rw [G8 k 0, token_some htk] at hx
    simp only [lf] at hx
    have H3 := Hid.mk htk
    have htl := (tk_len htk).2.1
    clear htk
    have hlt := bs_toList t
    have hls := bs_size t
    by_cases hb : begT t = true
    · rw [if_neg (by rw [hb]; simp)] at hx
      go_enter Tryz.func266, Tryz.ntmps266
      go_wp2_with fail
      refine (token_yes (hR.alloc _) hl H3.out).mono ?_
      rintro e w2 ⟨rfl, hR2, hk2⟩
      have hb2 := (Box.new hM #[.int .i64 0, .string ⟨#[]⟩, .slice none 0 0] 24).same hk2 (by simp; omega)
      have hM2 := (hM.alloc (.cells #[.int .i64 0, .string ⟨#[]⟩, .slice none 0 0] 24)).kp hk2 (by simpa using hR2.box.out)
      have hK2 := ((Kp.refl [g] w).alloc (.cells #[.int .i64 0, .string ⟨#[]⟩, .slice none 0 0] 24)).trans hk2
      obtain ⟨⟨p0, p1, p2⟩, f0, f1, f2⟩ := hb2.three
      have hc1 : w2.cell? ⟨g, 1, none⟩ = some (.int .i64 (at_ l (sk r) : Nat)) := hR2.box.cell 1
      have hf1 : w2.frozen? ⟨g, 1, none⟩ = false := hR2.box.free 1
      have hp : at_ l (sk r) + (sk r).length = l.length := by have := hR2.suf.length_le; simp [at_]; omega
      have HB := Hid.mk (And.intro hb2 (And.intro hM2 (And.intro hK2 hR2)))
      generalize hpe : at_ l (sk r) = p at hc1 hp
      have Hpe := Hid.mk hpe
      have Hx := Hid.mk hx
      clear hb2 hM2 hK2 hR2 hk2 hpe hx
      by_cases e1 : t = [46]
      · subst e1
        go_wp2_with (go_at_call 264; refine (begins_calls _ _).mono ?_; rintro e w2' ⟨rfl, rfl⟩)
        obtain ⟨hb2, hM2, hK2, hR2⟩ := HB.out
        have hx := Hx.out
        rw [show leaf [46] = some (.mk 1 [] []) from rfl] at hx
        simp only [Option.some.injEq] at hx
        rw [← hx]
        obtain ⟨⟨r0, r1, r2⟩, hend⟩ := leaf_end (q := (p : Int) + 1) 1 [] hgw hb2 hR2 hM2 hK2 htl ⟨#[]⟩ rfl (by rw [Hpe.out]; simp)
        exact bodyPost_ret (v := .agg #[.int .i64 1, .string ⟨#[]⟩, .slice none 0 0]) (by simp [results, Tryz.results266, go_sem, r0, r1, r2]) rfl hend
      by_cases e2 : t = [91, 93]
      · subst e2
        go_wp2_with (go_at_call 264; refine (begins_calls _ _).mono ?_; rintro e w2' ⟨rfl, rfl⟩)
        obtain ⟨hb2, hM2, hK2, hR2⟩ := HB.out
        have hx := Hx.out
        rw [show leaf [91, 93] = some (.mk 2 [] []) from rfl] at hx
        simp only [Option.some.injEq] at hx
        rw [← hx]
        obtain ⟨⟨r0, r1, r2⟩, hend⟩ := leaf_end (q := (p : Int) + 2) 2 [] hgw hb2 hR2 hM2 hK2 htl ⟨#[]⟩ rfl (by rw [Hpe.out]; simp)
        exact bodyPost_ret (v := .agg #[.int .i64 2, .string ⟨#[]⟩, .slice none 0 0]) (by simp [results, Tryz.results266, go_sem, r0, r1, r2]) rfl hend
      by_cases e3 : t = [33]
      · subst e3
        go_wp2_with (go_at_call 264; refine (begins_calls _ _).mono ?_; rintro e w2' ⟨rfl, rfl⟩)
        obtain ⟨hb2, hM2, hK2, hR2⟩ := HB.out
        have hx := Hx.out
        rw [show leaf [33] = some (.mk 3 [] []) from rfl] at hx
        simp only [Option.some.injEq] at hx
        rw [← hx]
        obtain ⟨⟨r0, r1, r2⟩, hend⟩ := leaf_end (q := (p : Int) + 1) 3 [] hgw hb2 hR2 hM2 hK2 htl ⟨#[]⟩ rfl (by rw [Hpe.out]; simp)
        exact bodyPost_ret (v := .agg #[.int .i64 3, .string ⟨#[]⟩, .slice none 0 0]) (by simp [results, Tryz.results266, go_sem, r0, r1, r2]) rfl hend
      by_cases e4 : t = [91]
      · subst e4
        have hx := Hx.out
        rw [show leaf [91] = none from rfl] at hx
        rcases bx_some hx with ⟨q, h6, rfl⟩ | ⟨⟨a, r2⟩, h6, h7⟩
        · have H6 := Hid.mk h6
          clear h6 hx Hx
          go_wp2_with (go_at_call 264; refine (begins_calls _ _).mono ?_; rintro e w2' ⟨rfl, rfl⟩)
          obtain ⟨hb2, hM2, hK2, hR2⟩ := HB.out
          have hk1 : Kp [g] w2 (w2.setCell ⟨g, 1, none⟩ (.int .i64 ((p : Int) + 1))) := (Kp.refl [g] w2).setCell (.inl (by simp)) _
          have hR1 : Rd (w2.setCell ⟨g, 1, none⟩ (.int .i64 ((p : Int) + 1))) M g l ((sk r).drop 1) := Rd.mk' (hR2.box.set 1 _) ((List.drop_suffix _ _).trans hR2.suf) (p := p + 1) (by rw [← Hpe.out]; have := hR2.suf.length_le; simp at htl; simp [at_]; omega)
          refine ((hS k (Nat.le_refl _)).err hR1 (hM2.kp hk1 (by simpa using hR2.box.out)) hl H6.out).mono ?_
          rintro e w3 ⟨rfl, hk3⟩
          go_wp2_with fail
          exact ⟨rfl, (hK2.trans hk1).trans hk3, rfl⟩
        · have H6 := Hid.mk h6
          have H7 := Hid.mk h7
          clear h6 h7 hx Hx
          go_wp2_with (go_at_call 264; refine (begins_calls _ _).mono ?_; rintro e w2' ⟨rfl, rfl⟩)
          obtain ⟨hb2, hM2, hK2, hR2⟩ := HB.out
          have hk1 : Kp [g] w2 (w2.setCell ⟨g, 1, none⟩ (.int .i64 ((p : Int) + 1))) := (Kp.refl [g] w2).setCell (.inl (by simp)) _
          have hR1 : Rd (w2.setCell ⟨g, 1, none⟩ (.int .i64 ((p : Int) + 1))) M g l ((sk r).drop 1) := Rd.mk' (hR2.box.set 1 _) ((List.drop_suffix _ _).trans hR2.suf) (p := p + 1) (by rw [← Hpe.out]; have := hR2.suf.length_le; simp at htl; simp [at_]; omega)
          have hb1 := hb2.same hk1 (by simp; omega)
          refine ((hS k (Nat.le_refl _)).ok hR1 (hM2.kp hk1 (by simpa using hR2.box.out)) hl H6.out).mono ?_
          rintro e w3 ⟨A3, c3, M3, rfl, hx3, hM3, he3, hR3, hk3⟩
          have hb3 := hb1.kp hk3 (by simp; omega) he3 hb1.lt
          have hK3 := (hK2.trans hk1).trans hk3
          have he3' := he3.low (hK2.trans hk1).size
          have hw3 := hb3.lt
          have HC := Hid.mk (And.intro hb3 (And.intro hK3 (And.intro he3' (And.intro hx3 (And.intro hM3 hR3)))))
          clear HB hb2 hM2 hK2 hR2 hk1 hR1 hb1 hb3 hK3 he3' he3 hk3 p0 p1 p2 f0 f1 f2 hc1 hf1
          rcases lf_some H7.out with ⟨q, h1, rfl⟩ | ⟨⟨b, r3⟩, h1, h2⟩
          · obtain ⟨rfl, h3⟩ := takeT_err h1
            have H4 := Hid.mk h3
            clear h1 h3
            go_wp2_with fail
            refine (take_no _ (hR3.alloc _) hl H4.out).mono ?_
            rintro e w4 ⟨rfl, h4, hk4⟩
            go_wp2_with fail
            exact ⟨rfl, (HC.out.2.1.alloc _).trans hk4, rfl⟩
          · dsimp only at h2
            rcases takeT_ok h1 with ⟨rfl, h3, rfl⟩ | ⟨rfl, rfl, u, h3, h5⟩
            · have H4 := Hid.mk h3
              simp only [Bool.true_eq_false, if_false, Option.some.injEq] at h2
              have H2' := Hid.mk h2
              clear h1 h2 h3 H7
              go_wp2_with fail
              refine (take_yes (t := [93]) (hR3.alloc _) hl H4.out).mono ?_
              rintro e w4 ⟨rfl, hR4, hk4⟩
              obtain ⟨hb3, hK3, he3', hx3, hM3, hR3⟩ := HC.out
              have hbx : Box w4 M3 w3.heap.size #[.int .i64 a.op, .string (bs a.s), .slice A3 a.l.length c3] 24 := (Box.new hM3 _ _).same hk4 (by simp; omega)
              have hb4 := (hb3.alloc (.cells #[.int .i64 a.op, .string (bs a.s), .slice A3 a.l.length c3] 24)).same hk4 (by simp; omega)
              have hM4 := (hM3.alloc (.cells #[.int .i64 a.op, .string (bs a.s), .slice A3 a.l.length c3] 24)).kp hk4 (by simpa using hR4.box.out)
              have hK4 := (hK3.alloc (.cells #[.int .i64 a.op, .string (bs a.s), .slice A3 a.l.length c3] 24)).trans hk4
              obtain ⟨⟨q0, q1, q2⟩, _, _, _⟩ := hbx.three
              obtain ⟨⟨s0, s1, s2⟩, f0, f1, f2⟩ := hb4.three
              have HD := Hid.mk (And.intro hb4 (And.intro hK4 (And.intro he3' (And.intro hx3 (And.intro hM4 hR4)))))
              clear hb3 hK3 he3' hx3 hM3 hR3 hbx hb4 hM4 hK4 hR4 hk4
              go_wp2_with fail
              obtain ⟨hb4, hK4, he3', hx3, hM4, hR4⟩ := HD.out
              have hk5 := Kp.set3 (b := w.heap.size) (x' := .int .i64 a.op) (y' := .string (bs a.s)) (z' := .slice A3 a.l.length c3) (Kp.refl [w.heap.size] w4) (.inl (by simp))
              obtain ⟨⟨r0, r1, r2'⟩, _, _, _⟩ := (hb4.set3 (x' := .int .i64 a.op) (y' := .string (bs a.s)) (z' := .slice A3 a.l.length c3)).three
              refine bodyPost_ret (v := .agg #[.int .i64 a.op, .string (bs a.s), .slice A3 a.l.length c3]) (by simp [results, Tryz.results266, go_sem, r0, r1, r2']) rfl ?_
              rw [← H2'.out]
              exact ⟨hK4.inner hk5 (by simp), _, _, _, rfl, hx3, hM4.kp hk5 (by simpa using hb4.out), he3', hR4.same hk5 (by simp; omega)⟩
            · have H4 := Hid.mk h3
              have H5 := Hid.mk h5
              simp only [if_true, Option.some.injEq] at h2
              have H2' := Hid.mk h2
              clear h1 h2 h3 h5 H7
              go_wp2_with fail
              refine (take_ne (t := [93]) (hR3.alloc _) hl H4.out H5.out).mono ?_
              rintro e w4 ⟨rfl, hR4, hk4⟩
              have hc1 : w4.cell? ⟨g, 1, none⟩ = some (.int .i64 (at_ l (sk r2) : Nat)) := hR4.box.cell 1
              go_wp2_with fail
              rw [← H2'.out]
              exact ⟨rfl, (HC.out.2.1.alloc _).trans hk4, rfl⟩
      cases t with
      | nil => simp [begT] at hb
      | cons c t' =>
        have hq0 : (bs (c :: t'))[0]'(by rw [hls]; simp) = c := by simp [bs, ByteArray.getElem_eq_getElem_data]
        have hb6 : (p : Int) + ((t'.length : Int) + 1) ≤ 6000 := by simp at htl; omega
        have n1 : ((c :: t') == [46]) = false := by simpa using e1
        have n2 : ((c :: t') == [91, 93]) = false := by simpa using e2
        have n3 : ((c :: t') == [33]) = false := by simpa using e3
        have n4 : ((c :: t') == [91]) = false := by simpa using e4
        have hlf := show leaf (c :: t') = if (c :: t').head? = some 92 then some (.mk 0 ((c :: t').drop 1) []) else if (c :: t').head? = some 60 then some (.mk 0 (((c :: t').drop 1).take ((c :: t').length - 2)) []) else some (.mk 0 (c :: t') []) by
          unfold leaf; rw [if_neg e1, if_neg e2, if_neg e3, if_neg e4]
        have Hlf := Hid.mk hlf
        clear hlf e1 e2 e3 e4
        by_cases h92 : c = 92
        · have b92 : ((c.toNat : Int) == 92) = true := by rw [h92]; rfl
          have hx1 : (bs (c :: t')).extract 1 (t'.length + 1) = bs t' := (bs_extract _ _ _).trans (by simp)
          have Hl := Hid.mk (show leaf (c :: t') = some (.mk 0 t' []) by rw [Hlf.out, if_pos (by simp [h92])]; rfl)
          clear h92 Hlf
          go_wp2_with (go_at_call 264; refine (begins_calls _ _).mono ?_; rintro e w2' ⟨rfl, rfl⟩)
          obtain ⟨hb2, hM2, hK2, hR2⟩ := HB.out
          have hx := Hx.out
          rw [Hl.out] at hx
          simp only [Option.some.injEq] at hx
          rw [← hx]
          obtain ⟨⟨r0, r1, r2⟩, hend⟩ := leaf_end (q := (p : Int) + ((t'.length : Int) + 1)) 0 t' hgw hb2 hR2 hM2 hK2 htl (bs t') rfl (by rw [Hpe.out]; simp)
          exact bodyPost_ret (v := .agg #[.int .i64 0, .string (bs t'), .slice none 0 0]) (by simp [results, Tryz.results266, go_sem, r0, r1, r2]) rfl hend
        · have b92 : ((c.toNat : Int) == 92) = false := cod_ne h92
          by_cases h60 : c = 60
          · have b60 : ((c.toNat : Int) == 60) = true := by rw [h60]; rfl
            have ht1 : 1 ≤ t'.length := by
              rcases t' with _ | ⟨d, t'⟩
              · subst h60; simp [begT, nameB, isNameI, cod] at hb
              · simp
            have hx1 : (bs (c :: t')).extract 1 t'.length = bs (t'.take (t'.length - 1)) := (bs_extract _ _ _).trans (by
              congr 1
              obtain ⟨n, hn⟩ : ∃ n, t'.length = n + 1 := ⟨t'.length - 1, by omega⟩
              rw [hn]; simp)
            have Hl := Hid.mk (show leaf (c :: t') = some (.mk 0 (t'.take (t'.length - 1)) []) by rw [Hlf.out, if_neg (by simp [h92]), if_pos (by simp [h60])]; simp)
            clear h92 h60 Hlf
            go_wp2_with (go_at_call 264; refine (begins_calls _ _).mono ?_; rintro e w2' ⟨rfl, rfl⟩)
            obtain ⟨hb2, hM2, hK2, hR2⟩ := HB.out
            have hx := Hx.out
            rw [Hl.out] at hx
            simp only [Option.some.injEq] at hx
            rw [← hx]
            obtain ⟨⟨r0, r1, r2⟩, hend⟩ := leaf_end (q := (p : Int) + ((t'.length : Int) + 1)) 0 (t'.take (t'.length - 1)) hgw hb2 hR2 hM2 hK2 htl (bs (t'.take (t'.length - 1))) rfl (by rw [Hpe.out]; simp)
            exact bodyPost_ret (v := .agg #[.int .i64 0, .string (bs (t'.take (t'.length - 1))), .slice none 0 0]) (by simp [results, Tryz.results266, go_sem, r0, r1, r2]) rfl hend
          · have b60 : ((c.toNat : Int) == 60) = false := cod_ne h60
            have Hl := Hid.mk (show leaf (c :: t') = some (.mk 0 (c :: t') []) by rw [Hlf.out, if_neg (by simp [h92]), if_neg (by simp [h60])])
            clear h92 h60 Hlf
            go_wp2_with (go_at_call 264; refine (begins_calls _ _).mono ?_; rintro e w2' ⟨rfl, rfl⟩)
            obtain ⟨hb2, hM2, hK2, hR2⟩ := HB.out
            have hx := Hx.out
            rw [Hl.out] at hx
            simp only [Option.some.injEq] at hx
            rw [← hx]
            obtain ⟨⟨r0, r1, r2⟩, hend⟩ := leaf_end (q := (p : Int) + ((t'.length : Int) + 1)) 0 (c :: t') hgw hb2 hR2 hM2 hK2 htl (bs (c :: t')) rfl (by rw [Hpe.out]; simp)
            exact bodyPost_ret (v := .agg #[.int .i64 0, .string (bs (c :: t')), .slice none 0 0]) (by simp [results, Tryz.results266, go_sem, r0, r1, r2]) rfl hend
    · replace hb := Bool.eq_false_iff.2 hb
      rw [if_pos hb, Option.some.injEq] at hx
      subst hx
      go_enter Tryz.func266, Tryz.ntmps266
      go_wp2_with fail
      refine (token_yes (hR.alloc _) hl H3.out).mono ?_
      rintro e w2 ⟨rfl, hR2, hk2⟩
      have hc1 : w2.cell? ⟨g, 1, none⟩ = some (.int .i64 (at_ l (sk r) : Nat)) := hR2.box.cell 1
      go_wp2_with (go_at_call 264; refine (begins_calls _ _).mono ?_; rintro e w2' ⟨rfl, rfl⟩)
      exact ⟨rfl, ((Kp.refl _ _).alloc _).trans hk2, rfl⟩
end Go.Proofs.YtgdnhlckodhhgaaGreatDoor
