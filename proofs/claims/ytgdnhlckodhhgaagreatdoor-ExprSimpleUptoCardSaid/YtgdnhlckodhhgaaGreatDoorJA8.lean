/-
  The program's reader: a whole expression; the levels between; all levels together.
-/
import Derived.Test.YtgdnhlckodhhgaaGreatDoorJA7
namespace Go.Proofs.YtgdnhlckodhhgaaGreatDoor
open Go.RowKit
set_option linter.unusedVariables false
set_option linter.unusedSimpArgs false
/-- A node over three: its row is laid, and the node stored into a box. -/
theorem node3 {w : World} {M : Heap} {b9 : Nat} {x y z : Value} {t : TypeId} (op : Int) {a b d : E} {A B D : Option Addr} {ca cb cd : Nat}
    {ob od : Int} {sb sd : ByteArray} {nb nd : Nat} (eb : b.op = ob ∧ bs b.s = sb ∧ b.l.length = nb) (ed : d.op = od ∧ bs d.s = sd ∧ d.l.length = nd) (h9 : Box w M b9 #[x, y, z] t) (hM : Mem w M) (ha : ExV M a A ca) (hb : ExV M b B cb) (hd : ExV M d D cd) : ∃ M',
    let W := (((w.setCell ⟨b9, 0, none⟩ (.int .i64 op)).setCell ⟨b9, 1, none⟩ (.string ⟨#[]⟩)).setCell ⟨b9, 2, none⟩ (.slice (some ⟨w.heap.size, 0, none⟩) 3 3)).alloc
      (.cells #[.int .i64 a.op, .string (bs a.s), .slice A a.l.length ca, .int .i64 ob, .string sb, .slice B nb cb, .int .i64 od, .string sd, .slice D nd cd] 24)
    Box W M' b9 #[.int .i64 op, .string (bs []), .slice (some ⟨w.heap.size, 0, none⟩) 3 3] t ∧ ExV M' (.mk op [] [a, b, d]) (some ⟨w.heap.size, 0, none⟩) 3 ∧ Mem W M' ∧ Ext w.heap.size M M' ∧ Kp [b9] w W := by
  obtain ⟨rfl, rfl, rfl⟩ := eb
  obtain ⟨rfl, rfl, rfl⟩ := ed
  have hk : Kp [b9] w (((w.setCell ⟨b9, 0, none⟩ (.int .i64 op)).setCell ⟨b9, 1, none⟩ (.string ⟨#[]⟩)).setCell ⟨b9, 2, none⟩ (.slice (some ⟨w.heap.size, 0, none⟩) 3 3)) := (Kp.refl [b9] w).set3 (.inl (by simp))
  have hb3 : Box _ M b9 #[.int .i64 op, .string (bs []), .slice (some ⟨w.heap.size, 0, none⟩) 3 3] t := h9.set3 (x' := .int .i64 op) (y' := .string ⟨#[]⟩) (z' := .slice (some ⟨w.heap.size, 0, none⟩) 3 3)
  have hsz : (((w.setCell ⟨b9, 0, none⟩ (.int .i64 op)).setCell ⟨b9, 1, none⟩ (.string ⟨#[]⟩)).setCell ⟨b9, 2, none⟩ (.slice (some ⟨w.heap.size, 0, none⟩) 3 3)).heap.size = w.heap.size := by simp [World.setCell]
  have hM3 := hM.kp hk (by simpa using h9.out)
  generalize (((w.setCell ⟨b9, 0, none⟩ (.int .i64 op)).setCell ⟨b9, 1, none⟩ (.string ⟨#[]⟩)).setCell ⟨b9, 2, none⟩ (.slice (some ⟨w.heap.size, 0, none⟩) 3 3)) = w3 at *
  have hrow : (w3.alloc (.cells #[.int .i64 a.op, .string (bs a.s), .slice A a.l.length ca, .int .i64 b.op, .string (bs b.s), .slice B b.l.length cb, .int .i64 d.op, .string (bs d.s), .slice D d.l.length cd] 24)).heap[w.heap.size]? = some _ := hsz ▸ heap_alloc_new _ _
  have hno : M w.heap.size = none := hM.ge (Nat.le_refl _)
  have hlt := h9.lt
  refine ⟨M.put w.heap.size (.cells #[.int .i64 a.op, .string (bs a.s), .slice A a.l.length ca, .int .i64 b.op, .string (bs b.s), .slice B b.l.length cb, .int .i64 d.op, .string (bs d.s), .slice D d.l.length cd] 24), (hb3.alloc _).put (by omega), ?_, (hM3.alloc _).put hrow, Ext.put (Nat.le_refl _) hno, hk.alloc _⟩
  have he : Ext w.heap.size M (M.put w.heap.size (.cells #[.int .i64 a.op, .string (bs a.s), .slice A a.l.length ca, .int .i64 b.op, .string (bs b.s), .slice B b.l.length cb, .int .i64 d.op, .string (bs d.s), .slice D d.l.length cd] 24)) := Ext.put (Nat.le_refl _) hno
  refine ExV.node (ps := [(a, A, ca), (b, B, cb), (d, D, cd)]) (spare := []) op [] Heap.put_same (by simp [flat]) (by simp) (fun j hj => ?_)
  match j, hj with
  | 0, _ => exact ha.ext he
  | 1, _ => exact hb.ext he
  | 2, _ => exact hd.ext he
theorem exv_none {w : World} {M : Heap} (h : Mem w M) : ExV M noneE none 0 := ExV.leaf _ _ _ _ _
theorem G0 (k : Nat) (r : Bs) : G (k + 1) (.lv 0 r) = bx (G k (.lv 1 r)) fun (a, r1) => lf (takeT [61, 62] r1) fun (b, r2) =>
      if b = false then some (.ok (a, r2)) else lf (token r2) fun (t, r3) => bx (if t = [95] then some (.ok (noneE, r3)) else G k (.lv 1 r3)) fun (x, r4) =>
      lf (takeT [95] r4) fun (b, r5) => if b = false then some (.error r5) else lf (token r5) fun (t, r6) =>
      bx (if t = [] ∨ t = [93] then some (.ok (noneE, r6)) else G k (.lv 1 r6)) fun (y, r7) => some (.ok (.mk 14 [] [a, x, y], r7)) := by simp only [G]
set_option maxRecDepth 100000 in
set_option maxHeartbeats 16000000 in
theorem only_spec {k g : Nat} {l r : Bs} {w : World} {M : Heap} {x : Ex (E × Bs)} (hS : ∀ k', k' ≤ k → LvSpec 103 1 k')
    (hR : Rd w M g l r) (hM : Mem w M) (hl : l.length ≤ 6000) (hx : G (k + 1) (.lv 0 r) = some x) :
    Calls Tryz.prog 63 #[.pointer (some ⟨g, 0, none⟩)] w (GEnd w M g l x) := by
  have hgw : g < w.heap.size := hR.box.lt
  rw [G0] at hx
  rcases bx_some hx with ⟨q, h1, rfl⟩ | ⟨⟨a, r1⟩, h1, h2⟩
  · have H1 := Hid.mk h1
    clear h1 hx
    go_enter Tryz.func63, Tryz.ntmps63
    go_wp2_with fail
    refine ((hS k (Nat.le_refl _)).err (hR.alloc _) (hM.alloc _) hl H1.out).mono ?_
    rintro e w1 ⟨rfl, hk1⟩
    go_wp2_with fail
    exact ⟨rfl, ((Kp.refl _ _).alloc _).trans hk1, rfl⟩
  · have H1 := Hid.mk h1
    have HX := Hid.mk h2
    clear h1 h2 hx
    go_enter Tryz.func63, Tryz.ntmps63
    go_wp2_with fail
    refine ((hS k (Nat.le_refl _)).ok (hR.alloc _) (hM.alloc _) hl H1.out).mono ?_
    rintro e w1 ⟨A1, c1, M1, rfl, hxa, hM1, he1, hR1, hk1⟩
    have hsz : w.heap.size < w1.heap.size := by have := hk1.size; simp at this; omega
    have hb2 : Box w1 M1 w.heap.size #[.int .i64 0, .string ⟨#[]⟩, .slice none 0 0] 24 := (Box.new hM _ _).kp hk1 (by simp <;> omega) he1 (by simp)
    have hK1 := ((Kp.refl [g] w).alloc (.cells #[.int .i64 0, .string ⟨#[]⟩, .slice none 0 0] 24)).trans hk1
    have he1 := he1.low (n := w.heap.size) (by simp)
    clear hk1
    rcases lf_some HX.out with ⟨q, h1, rfl⟩ | ⟨⟨b, r2⟩, h1, h2⟩
    · obtain ⟨rfl, h3⟩ := takeT_err h1
      have H3 := Hid.mk h3
      clear h1 h3 HX
      go_wp2_with fail
      refine (take_no _ (hR1.alloc _) hl H3.out).mono ?_
      rintro e w2 ⟨rfl, h4, hk2⟩
      go_wp2_with fail
      exact ⟨rfl, (hK1.alloc _).trans hk2, rfl⟩
    · dsimp only at h2
      rcases takeT_ok h1 with ⟨rfl, h3, rfl⟩ | ⟨rfl, rfl, u, h3, h5⟩
      · have H3 := Hid.mk h3
        simp only [Bool.true_eq_false, if_false] at h2
        have HX := Hid.mk h2
        clear h1 h2 h3
        go_wp2_with fail
        refine (take_yes (t := [61, 62]) (hR1.alloc _) hl H3.out).mono ?_
        rintro e w2 ⟨rfl, hR2, hk2⟩
        have hb3 : Box w2 M1 w1.heap.size #[.int .i64 a.op, .string (bs a.s), .slice A1 a.l.length c1] 24 := (Box.new hM1 _ _).same hk2 (by simp <;> omega)
        have hb2 := (hb2.alloc (.cells #[.int .i64 a.op, .string (bs a.s), .slice A1 a.l.length c1] 24)).same hk2 (by simp <;> omega)
        have hM2 := (hM1.alloc (.cells #[.int .i64 a.op, .string (bs a.s), .slice A1 a.l.length c1] 24)).kp hk2 (by simpa using hR2.box.out)
        have hK2 := (hK1.alloc (.cells #[.int .i64 a.op, .string (bs a.s), .slice A1 a.l.length c1] 24)).trans hk2
        have hsz2 : w1.heap.size < w2.heap.size := hb3.lt
        have hb4 : Box ((w2.alloc (.cells #[.int .i64 2, .string ⟨#[]⟩, .slice none 0 0] 24)).alloc (.cells #[.int .i64 2, .string ⟨#[]⟩, .slice none 0 0] 24)) M1 w2.heap.size #[.int .i64 2, .string ⟨#[]⟩, .slice none 0 0] 24 := (Box.new hM2 _ _).alloc _
        have hb5 : Box ((w2.alloc (.cells #[.int .i64 2, .string ⟨#[]⟩, .slice none 0 0] 24)).alloc (.cells #[.int .i64 2, .string ⟨#[]⟩, .slice none 0 0] 24)) M1 (w2.heap.size + 1) #[.int .i64 2, .string ⟨#[]⟩, .slice none 0 0] 24 := ⟨row_at _ _ _, hM2.ge (by omega)⟩
        have hb3 := (hb3.alloc (.cells #[.int .i64 2, .string ⟨#[]⟩, .slice none 0 0] 24)).alloc (.cells #[.int .i64 2, .string ⟨#[]⟩, .slice none 0 0] 24)
        have hb2 := (hb2.alloc (.cells #[.int .i64 2, .string ⟨#[]⟩, .slice none 0 0] 24)).alloc (.cells #[.int .i64 2, .string ⟨#[]⟩, .slice none 0 0] 24)
        have hM3 := (hM2.alloc (.cells #[.int .i64 2, .string ⟨#[]⟩, .slice none 0 0] 24)).alloc (.cells #[.int .i64 2, .string ⟨#[]⟩, .slice none 0 0] 24)
        have hR3 := (hR2.alloc (.cells #[.int .i64 2, .string ⟨#[]⟩, .slice none 0 0] 24)).alloc (.cells #[.int .i64 2, .string ⟨#[]⟩, .slice none 0 0] 24)
        have hK3 := (hK2.alloc (.cells #[.int .i64 2, .string ⟨#[]⟩, .slice none 0 0] 24)).alloc (.cells #[.int .i64 2, .string ⟨#[]⟩, .slice none 0 0] 24)
        have HS := Hid.mk (And.intro hb2 (And.intro hb3 (And.intro hb4 (And.intro hb5 (And.intro hxa (And.intro hM3 (And.intro he1 hK3)))))))
        clear hb2 hb3 hb4 hb5 hxa hM1 hM2 hM3 he1 hK1 hK2 hK3 hR1 hR2 hk2
        rcases lf_some HX.out with ⟨q, h1, rfl⟩ | ⟨⟨t, r3⟩, h1, h2⟩
        · obtain ⟨rfl, h3⟩ := token_err h1
          have H3 := Hid.mk h3
          clear h1 h3 HX
          go_wp2_with fail
          refine (token_no hR3 hl H3.out).mono ?_
          rintro e w3 ⟨rfl, h4, hk3⟩
          go_wp2_with fail
          exact ⟨rfl, HS.out.2.2.2.2.2.2.2.trans hk3, rfl⟩
        · dsimp only at h2
          obtain ⟨rfl, h3⟩ := token_ok h1
          have H3 := Hid.mk h3
          clear h1 h3
          have hlt3 := bs_toList t
          by_cases e3 : t = [95]
          · subst e3
            rw [if_pos rfl] at h2
            simp only [bx] at h2
            have HX := Hid.mk h2
            clear h2
            go_wp2_with fail
            refine (token_yes hR3 hl H3.out).mono ?_
            rintro e w4 ⟨rfl, hR4, hk4⟩
            obtain ⟨hb2, hb3, hb4, hb5, hxa, hM3, he4, hK3⟩ := HS.out
            have hb2 := hb2.same hk4 (by simp <;> omega)
            have hb3 := hb3.same hk4 (by simp <;> omega)
            have hb4 := hb4.same hk4 (by simp <;> omega)
            have hb5 := hb5.same hk4 (by simp <;> omega)
            have hM4 := hM3.kp hk4 (by simpa using hR4.box.out)
            have hK4 := hK3.trans hk4
            have hx4 : ExV M1 noneE none 0 := ExV.leaf _ _ _ _ _
            clear HS hM3 hK3 hk4 hR3
            have HS := Hid.mk (And.intro hb2 (And.intro hb3 (And.intro hb4 (And.intro hb5 (And.intro hxa (And.intro hx4 (And.intro hM4 (And.intro he4 hK4))))))))
            rcases lf_some HX.out with ⟨q, h1, rfl⟩ | ⟨⟨b, r5⟩, h1, h2⟩
            · obtain ⟨rfl, h3⟩ := takeT_err h1
              have H3 := Hid.mk h3
              clear h1 h3 HX hb2 hb3 hb4 hb5 hxa hx4 hM4 he4
              go_wp2_with fail
              refine (take_no _ hR4 hl H3.out).mono ?_
              rintro e w5 ⟨rfl, h4, hk5⟩
              go_wp2_with fail
              exact ⟨rfl, hK4.trans hk5, rfl⟩
            · dsimp only at h2
              rcases takeT_ok h1 with ⟨rfl, h3, rfl⟩ | ⟨rfl, rfl, u, h3, h5⟩
              · have H3 := Hid.mk h3
                simp only [Bool.true_eq_false, if_false] at h2
                have HX := Hid.mk h2
                clear h1 h2 h3 hb2 hb3 hb4 hb5 hxa hx4 hM4 he4 hK4
                go_wp2_with fail
                refine (take_yes (t := [95]) hR4 hl H3.out).mono ?_
                rintro e w5 ⟨rfl, hR5, hk5⟩
                obtain ⟨hb2, hb3, hb4, hb5, hxa, hx4, hM4, he4, hK4⟩ := HS.out
                have hb2 := hb2.same hk5 (by simp <;> omega)
                have hb3 := hb3.same hk5 (by simp <;> omega)
                have hb4 := hb4.same hk5 (by simp <;> omega)
                have hb5 := hb5.same hk5 (by simp <;> omega)
                have hM5 := hM4.kp hk5 (by simpa using hR5.box.out)
                have hK5 := hK4.trans hk5
                rcases lf_some HX.out with ⟨q, h1, rfl⟩ | ⟨⟨t, r6⟩, h1, h2⟩
                · obtain ⟨rfl, h3⟩ := token_err h1
                  have H4 := Hid.mk h3
                  clear h1 h3 HX HS hb2 hb3 hb4 hb5 hxa hx4 hM4 he4 hM5 hK4 hk5
                  go_wp2_with fail
                  refine (token_no hR5 hl H4.out).mono ?_
                  rintro e w6 ⟨rfl, h4, hk6⟩
                  go_wp2_with fail
                  exact ⟨rfl, hK5.trans hk6, rfl⟩
                · dsimp only at h2
                  obtain ⟨rfl, h3⟩ := token_ok h1
                  have H4 := Hid.mk h3
                  have HX := Hid.mk h2
                  have HS := Hid.mk (And.intro hb2 (And.intro hb3 (And.intro hb4 (And.intro hb5 (And.intro hxa (And.intro hx4 (And.intro hM5 (And.intro he4 hK5))))))))
                  clear h1 h2 h3 hb2 hb3 hb4 hb5 hxa hx4 hM4 he4 hM5 hK4 hk5 hK5
                  have hlt6 := bs_toList t
                  by_cases e6 : t = [] ∨ t = [93]
                  · have hx := HX.out
                    rw [if_pos e6] at hx
                    simp only [bx, Option.some.injEq] at hx
                    have HX := Hid.mk hx
                    clear hx
                    rcases e6 with rfl | rfl
                    all_goals
                      go_wp2_with fail
                      refine (token_yes hR5 hl H4.out).mono ?_
                      rintro e w6 ⟨rfl, hR6, hk6⟩
                      obtain ⟨hb2, hb3, hb4, hb5, hxa, hx4, hM5, he6, hK5⟩ := HS.out
                      have hb2 := hb2.same hk6 (by simp <;> omega)
                      have hb3 := hb3.same hk6 (by simp <;> omega)
                      have hb4 := hb4.same hk6 (by simp <;> omega)
                      have hb5 := hb5.same hk6 (by simp <;> omega)
                      have hM6 := hM5.kp hk6 (by simpa using hR6.box.out)
                      have hK6 := hK5.trans hk6
                      have hx5 := exv_none hM6
                      clear HS hM5 hK5 hk6 hR5
                      have HE := Hid.mk (And.intro hb2 (And.intro hxa (And.intro hx4 (And.intro hx5 (And.intro hM6 (And.intro he6 (And.intro hR6 hK6)))))))
                      obtain ⟨⟨q0, q1, q2⟩, _, _, _⟩ := hb3.three
                      obtain ⟨⟨q3, q4, q5⟩, _, _, _⟩ := hb4.three
                      obtain ⟨⟨q6, q7, q8⟩, _, _, _⟩ := hb5.three
                      obtain ⟨⟨p0, p1, p2⟩, f0, f1, f2⟩ := hb2.three
                      have hz2 := hb2.lt
                      clear hb2 hb3 hb4 hb5 hxa hx4 hx5 hM6 he6 hR6 hK6
                      go_wp2_with fail
                      obtain ⟨hb2, hxa, hx4, hx5, hM6, he6, hR6, hK6⟩ := HE.out
                      obtain ⟨M7, hb7, hxn, hM7, he7, hk7⟩ := node3 14 (ob := 2) (sb := ⟨#[]⟩) (nb := 0) (od := 2) (sd := ⟨#[]⟩) (nd := 0) ⟨rfl, rfl, rfl⟩ ⟨rfl, rfl, rfl⟩ hb2 hM6 hxa hx4 hx5
                      obtain ⟨⟨r0, r1, r2⟩, _, _, _⟩ := hb7.three
                      refine bodyPost_ret (v := .agg #[.int .i64 14, .string (bs []), .slice (some ⟨w6.heap.size, 0, none⟩) 3 3]) (by simp [results, Tryz.results63, go_sem, r0, r1, r2]) rfl ?_
                      have hxx := HX.out
                      cases hxx
                      exact ⟨hK6.inner hk7 (by simp), _, _, M7, rfl, hxn, hM7, he6.trans (he7.low hK6.size) (Nat.le_refl _), hR6.kp hk7 (by simp <;> omega) he7 hR6.box.lt⟩
                  · have n1 : t.isEmpty = false := by cases t with
                      | nil => simp at e6
                      | cons c t => rfl
                    have n2 : (t == [93]) = false := by simp only [not_or] at e6; simpa using e6.2
                    have hx := HX.out
                    rw [if_neg e6] at hx
                    clear e6
                    rcases bx_some hx with ⟨q, h6, rfl⟩ | ⟨⟨y, r7⟩, h6, h7⟩
                    · have H6 := Hid.mk h6
                      clear h6 hx HX
                      go_wp2_with fail
                      refine (token_yes hR5 hl H4.out).mono ?_
                      rintro e w6 ⟨rfl, hR6, hk6⟩
                      obtain ⟨hb2, hb3, hb4, hb5, hxa, hx4, hM5, he4, hK5⟩ := HS.out
                      have hM6 := hM5.kp hk6 (by simpa using hR6.box.out)
                      clear HS hb2 hb3 hb4 hb5 hxa hx4 hM5 he4
                      go_wp2_with fail
                      refine ((hS k (Nat.le_refl _)).err hR6 hM6 hl H6.out).mono ?_
                      rintro e w7 ⟨rfl, hk7⟩
                      go_wp2_with fail
                      exact ⟨rfl, (hK5.trans hk6).trans hk7, rfl⟩
                    · have H6 := Hid.mk h6
                      simp only [Option.some.injEq] at h7
                      have HX := Hid.mk h7
                      clear h6 h7 hx
                      go_wp2_with fail
                      refine (token_yes hR5 hl H4.out).mono ?_
                      rintro e w6' ⟨rfl, hR6, hk6⟩
                      obtain ⟨hb2, hb3, hb4, hb5, hxa, hx4, hM5, he4, hK5⟩ := HS.out
                      have hM6 := hM5.kp hk6 (by simpa using hR6.box.out)
                      have HS := Hid.mk (And.intro hb2 (And.intro hb3 (And.intro hb4 (And.intro hb5 (And.intro hxa (And.intro hx4 (And.intro he4 hK5)))))))
                      clear hb2 hb3 hb4 hb5 hxa hx4 hM5 he4 hK5
                      go_wp2_with fail
                      refine ((hS k (Nat.le_refl _)).ok hR6 hM6 hl H6.out).mono ?_
                      rintro e w7 ⟨A5, c5, M6, rfl, hx5, hM6, he6, hR7, hk7⟩
                      obtain ⟨hb2, hb3, hb4, hb5, hxa, hx4, he4, hK5⟩ := HS.out
                      have hb2 := (hb2.same hk6 (by simp <;> omega)).kp hk7 (by simp <;> omega) he6 (Nat.lt_of_lt_of_le hb2.lt hk6.size)
                      have hb3 := (hb3.same hk6 (by simp <;> omega)).kp hk7 (by simp <;> omega) he6 (Nat.lt_of_lt_of_le hb3.lt hk6.size)
                      have hb4 := (hb4.same hk6 (by simp <;> omega)).kp hk7 (by simp <;> omega) he6 (Nat.lt_of_lt_of_le hb4.lt hk6.size)
                      have hb5 := (hb5.same hk6 (by simp <;> omega)).kp hk7 (by simp <;> omega) he6 (Nat.lt_of_lt_of_le hb5.lt hk6.size)
                      have hx46 := he6
                      have he6 := he4.trans (he6.low (Nat.le_trans hK5.size hk6.size)) (Nat.le_refl _)
                      have hK7 := (hK5.trans hk6).trans hk7
                      obtain ⟨_, f0, f1, f2⟩ := hb5.three
                      obtain ⟨⟨o0, o1, o2⟩, _, _, _⟩ := hb5.three
                      have HS := Hid.mk (And.intro hb2 (And.intro hb3 (And.intro hb4 (And.intro hb5 (And.intro (hxa.ext hx46) (And.intro (hx4.ext hx46) (And.intro hx5 (And.intro hM6 (And.intro he6 (And.intro hR7 hK7))))))))))
                      clear hR6 hk6 hk7 hR5
                      obtain ⟨⟨q0, q1, q2⟩, _, _, _⟩ := hb3.three
                      obtain ⟨⟨q3, q4, q5⟩, _, _, _⟩ := hb4.three
                      obtain ⟨⟨p0, p1, p2⟩, e0, e1, e2⟩ := hb2.three
                      have hz2 := hb2.lt
                      have hz3 := hb3.lt
                      have hz4 := hb4.lt
                      have hz5 := hb5.lt
                      clear hb2 hb3 hb4 hb5 hxa hx4 he4 hx5 hM6 he6 hR7 hK5 hK7
                      go_upto_region 12 with (fail)
                      obtain ⟨hb2, hb3, hb4, hb5, hxa, hx4, hx5, hM6, he6, hR7, hK7⟩ := HS.out
                      have hk8 := Kp.set3 (b := w2.heap.size + 1) (x' := .int .i64 y.op) (y' := .string (bs y.s)) (z' := .slice A5 y.l.length c5) (Kp.refl [w2.heap.size + 1] w7) (.inl (by simp))
                      have hb2 := hb2.same hk8 (by simp <;> omega)
                      have hb3 := hb3.same hk8 (by simp <;> omega)
                      have hb4 := hb4.same hk8 (by simp <;> omega)
                      have hM6 := hM6.kp hk8 (by simpa using hb5.out)
                      have hb5 := hb5.set3 (x' := .int .i64 y.op) (y' := .string (bs y.s)) (z' := .slice A5 y.l.length c5)
                      have hR6 := hR7.same hk8 (by simp <;> omega)
                      have hK6 := hK7.inner hk8 (by simp <;> omega)
                      clear HS hk8 hR7 hK7 q0 q1 q2 q3 q4 q5 p0 p1 p2 e0 e1 e2 hz2 hz3 hz4 hz5 f0 f1 f2 o0 o1 o2
                      generalize (((w7.setCell ⟨w2.heap.size + 1, 0, none⟩ (.int .i64 y.op)).setCell ⟨w2.heap.size + 1, 1, none⟩ (.string (bs y.s))).setCell ⟨w2.heap.size + 1, 2, none⟩ (.slice A5 y.l.length c5)) = w6 at *
                      have HE := Hid.mk (And.intro hb2 (And.intro hxa (And.intro hx4 (And.intro hx5 (And.intro hM6 (And.intro he6 (And.intro hR6 hK6)))))))
                      obtain ⟨⟨q0, q1, q2⟩, _, _, _⟩ := hb3.three
                      obtain ⟨⟨q3, q4, q5⟩, _, _, _⟩ := hb4.three
                      obtain ⟨⟨q6, q7, q8⟩, _, _, _⟩ := hb5.three
                      obtain ⟨⟨p0, p1, p2⟩, f0, f1, f2⟩ := hb2.three
                      have hz2 := hb2.lt
                      clear hb2 hb3 hb4 hb5 hxa hx4 hx5 hM6 he6 hR6 hK6
                      go_wp2_with fail
                      obtain ⟨hb2, hxa, hx4, hx5, hM6, he6, hR6, hK6⟩ := HE.out
                      obtain ⟨M7, hb7, hxn, hM7, he7, hk7⟩ := node3 14 (ob := 2) (sb := ⟨#[]⟩) (nb := 0) (od := y.op) (sd := bs y.s) (nd := y.l.length) ⟨rfl, rfl, rfl⟩ ⟨rfl, rfl, rfl⟩ hb2 hM6 hxa hx4 hx5
                      obtain ⟨⟨r0, r1, r2⟩, _, _, _⟩ := hb7.three
                      refine bodyPost_ret (v := .agg #[.int .i64 14, .string (bs []), .slice (some ⟨w6.heap.size, 0, none⟩) 3 3]) (by simp [results, Tryz.results63, go_sem, r0, r1, r2]) rfl ?_
                      have hxx := HX.out
                      cases hxx
                      exact ⟨hK6.inner hk7 (by simp), _, _, M7, rfl, hxn, hM7, he6.trans (he7.low hK6.size) (Nat.le_refl _), hR6.kp hk7 (by simp <;> omega) he7 hR6.box.lt⟩
              · have H3 := Hid.mk h3
                have H5 := Hid.mk h5
                simp only [if_true, Option.some.injEq] at h2
                have HX := Hid.mk h2
                clear h1 h2 h3 h5 hb2 hb3 hb4 hb5 hxa hx4 hM4 he4
                go_wp2_with fail
                refine (take_ne (t := [95]) hR4 hl H3.out H5.out).mono ?_
                rintro e w5 ⟨rfl, hR5, hk5⟩
                have hc1 : w5.cell? ⟨g, 1, none⟩ = some (.int .i64 _) := hR5.box.cell 1
                go_wp2_with fail
                have hxx := HX.out
                cases hxx
                exact ⟨rfl, hK4.trans hk5, rfl⟩
          · have n3 : (t == [95]) = false := by simpa using e3
            rw [if_neg e3] at h2
            clear e3
            rcases bx_some h2 with ⟨q, h6, rfl⟩ | ⟨⟨v, r4⟩, h6, h7⟩
            · have H6 := Hid.mk h6
              clear h6 h2 HX
              go_wp2_with fail
              refine (token_yes hR3 hl H3.out).mono ?_
              rintro e w4 ⟨rfl, hR4, hk4⟩
              obtain ⟨hb2, hb3, hb4, hb5, hxa, hM3, he4, hK3⟩ := HS.out
              have hM4 := hM3.kp hk4 (by simpa using hR4.box.out)
              clear HS hb2 hb3 hb4 hb5 hxa hM3 he4
              go_wp2_with fail
              refine ((hS k (Nat.le_refl _)).err hR4 hM4 hl H6.out).mono ?_
              rintro e w5 ⟨rfl, hk5⟩
              go_wp2_with fail
              exact ⟨rfl, (hK3.trans hk4).trans hk5, rfl⟩
            · have H6 := Hid.mk h6
              have HX := Hid.mk h7
              clear h6 h7 h2
              go_wp2_with fail
              refine (token_yes hR3 hl H3.out).mono ?_
              rintro e w4 ⟨rfl, hR4, hk4⟩
              obtain ⟨hb2, hb3, hb4, hb5, hxa, hM3, he4, hK3⟩ := HS.out
              have hM4 := hM3.kp hk4 (by simpa using hR4.box.out)
              clear hb2 hb3 hb4 hb5 hxa hM3 he4 hK3
              go_wp2_with fail
              refine ((hS k (Nat.le_refl _)).ok hR4 hM4 hl H6.out).mono ?_
              rintro e w5 ⟨A4, c4, M4, rfl, hx4, hM5, he5, hR5, hk5⟩
              obtain ⟨hb2, hb3, hb4, hb5, hxa, hM3, he4, hK3⟩ := HS.out
              have hb2 := (hb2.same hk4 (by simp <;> omega)).kp hk5 (by simp <;> omega) he5 (Nat.lt_of_lt_of_le hb2.lt hk4.size)
              have hb3 := (hb3.same hk4 (by simp <;> omega)).kp hk5 (by simp <;> omega) he5 (Nat.lt_of_lt_of_le hb3.lt hk4.size)
              have hb4 := (hb4.same hk4 (by simp <;> omega)).kp hk5 (by simp <;> omega) he5 (Nat.lt_of_lt_of_le hb4.lt hk4.size)
              have hb5 := (hb5.same hk4 (by simp <;> omega)).kp hk5 (by simp <;> omega) he5 (Nat.lt_of_lt_of_le hb5.lt hk4.size)
              have he4 := he4.trans (he5.low (Nat.le_trans hK3.size hk4.size)) (Nat.le_refl _)
              have hxa := hxa.ext he5
              have hK5 := (hK3.trans hk4).trans hk5
              obtain ⟨⟨o0, o1, o2⟩, g0, g1, g2⟩ := hb4.three
              have hkx := Kp.set3 (b := w2.heap.size) (x' := .int .i64 v.op) (y' := .string (bs v.s)) (z' := .slice A4 v.l.length c4) (Kp.refl [w2.heap.size] w5) (.inl (by simp))
              have hM4 := hM5.kp hkx (by simpa using hb4.out)
              have hb2 := hb2.same hkx (by simp <;> omega)
              have hb3 := hb3.same hkx (by simp <;> omega)
              have hb5 := hb5.same hkx (by simp)
              have hb4 := hb4.set3 (x' := .int .i64 v.op) (y' := .string (bs v.s)) (z' := .slice A4 v.l.length c4)
              have hR4 := hR5.same hkx (by simp <;> omega)
              have hK4 := hK5.inner hkx (by simp <;> omega)
              clear HS hM3 hK3 hk4 hR3 he5 hk5 hR5 hK5 hkx hM5
              have HS := Hid.mk (And.intro hb2 (And.intro hb3 (And.intro hb4 (And.intro hb5 (And.intro hxa (And.intro hx4 (And.intro hM4 (And.intro he4 hK4))))))))
              rcases lf_some HX.out with ⟨q, h1, rfl⟩ | ⟨⟨b, r5⟩, h1, h2⟩
              · obtain ⟨rfl, h3⟩ := takeT_err h1
                have H3 := Hid.mk h3
                clear h1 h3 HX hb2 hb3 hb4 hb5 hxa hx4 hM4 he4
                go_wp2_with fail
                refine (take_no _ hR4 hl H3.out).mono ?_
                rintro e w5 ⟨rfl, h4, hk5⟩
                go_wp2_with fail
                exact ⟨rfl, hK4.trans hk5, rfl⟩
              · dsimp only at h2
                rcases takeT_ok h1 with ⟨rfl, h3, rfl⟩ | ⟨rfl, rfl, u, h3, h5⟩
                · have H3 := Hid.mk h3
                  simp only [Bool.true_eq_false, if_false] at h2
                  have HX := Hid.mk h2
                  clear h1 h2 h3 hb2 hb3 hb4 hb5 hxa hx4 hM4 he4 hK4
                  go_wp2_with fail
                  refine (take_yes (t := [95]) hR4 hl H3.out).mono ?_
                  rintro e w5 ⟨rfl, hR5, hk5⟩
                  obtain ⟨hb2, hb3, hb4, hb5, hxa, hx4, hM4, he4, hK4⟩ := HS.out
                  have hb2 := hb2.same hk5 (by simp <;> omega)
                  have hb3 := hb3.same hk5 (by simp <;> omega)
                  have hb4 := hb4.same hk5 (by simp <;> omega)
                  have hb5 := hb5.same hk5 (by simp <;> omega)
                  have hM5 := hM4.kp hk5 (by simpa using hR5.box.out)
                  have hK5 := hK4.trans hk5
                  rcases lf_some HX.out with ⟨q, h1, rfl⟩ | ⟨⟨t, r6⟩, h1, h2⟩
                  · obtain ⟨rfl, h3⟩ := token_err h1
                    have H4 := Hid.mk h3
                    clear h1 h3 HX HS hb2 hb3 hb4 hb5 hxa hx4 hM4 he4 hM5 hK4 hk5
                    go_wp2_with fail
                    refine (token_no hR5 hl H4.out).mono ?_
                    rintro e w6 ⟨rfl, h4, hk6⟩
                    go_wp2_with fail
                    exact ⟨rfl, hK5.trans hk6, rfl⟩
                  · dsimp only at h2
                    obtain ⟨rfl, h3⟩ := token_ok h1
                    have H4 := Hid.mk h3
                    have HX := Hid.mk h2
                    have HS := Hid.mk (And.intro hb2 (And.intro hb3 (And.intro hb4 (And.intro hb5 (And.intro hxa (And.intro hx4 (And.intro hM5 (And.intro he4 hK5))))))))
                    clear h1 h2 h3 hb2 hb3 hb4 hb5 hxa hx4 hM4 he4 hM5 hK4 hk5 hK5
                    have hlt6 := bs_toList t
                    by_cases e6 : t = [] ∨ t = [93]
                    · have hx := HX.out
                      rw [if_pos e6] at hx
                      simp only [bx, Option.some.injEq] at hx
                      have HX := Hid.mk hx
                      clear hx
                      rcases e6 with rfl | rfl
                      all_goals
                        go_wp2_with fail
                        refine (token_yes hR5 hl H4.out).mono ?_
                        rintro e w6 ⟨rfl, hR6, hk6⟩
                        obtain ⟨hb2, hb3, hb4, hb5, hxa, hx4, hM5, he6, hK5⟩ := HS.out
                        have hb2 := hb2.same hk6 (by simp <;> omega)
                        have hb3 := hb3.same hk6 (by simp <;> omega)
                        have hb4 := hb4.same hk6 (by simp <;> omega)
                        have hb5 := hb5.same hk6 (by simp <;> omega)
                        have hM6 := hM5.kp hk6 (by simpa using hR6.box.out)
                        have hK6 := hK5.trans hk6
                        have hx5 := exv_none hM6
                        clear HS hM5 hK5 hk6 hR5
                        have HE := Hid.mk (And.intro hb2 (And.intro hxa (And.intro hx4 (And.intro hx5 (And.intro hM6 (And.intro he6 (And.intro hR6 hK6)))))))
                        obtain ⟨⟨q0, q1, q2⟩, _, _, _⟩ := hb3.three
                        obtain ⟨⟨q3, q4, q5⟩, _, _, _⟩ := hb4.three
                        obtain ⟨⟨q6, q7, q8⟩, _, _, _⟩ := hb5.three
                        obtain ⟨⟨p0, p1, p2⟩, f0, f1, f2⟩ := hb2.three
                        have hz2 := hb2.lt
                        clear hb2 hb3 hb4 hb5 hxa hx4 hx5 hM6 he6 hR6 hK6
                        go_wp2_with fail
                        obtain ⟨hb2, hxa, hx4, hx5, hM6, he6, hR6, hK6⟩ := HE.out
                        obtain ⟨M7, hb7, hxn, hM7, he7, hk7⟩ := node3 14 (ob := v.op) (sb := bs v.s) (nb := v.l.length) (od := 2) (sd := ⟨#[]⟩) (nd := 0) ⟨rfl, rfl, rfl⟩ ⟨rfl, rfl, rfl⟩ hb2 hM6 hxa hx4 hx5
                        obtain ⟨⟨r0, r1, r2⟩, _, _, _⟩ := hb7.three
                        refine bodyPost_ret (v := .agg #[.int .i64 14, .string (bs []), .slice (some ⟨w6.heap.size, 0, none⟩) 3 3]) (by simp [results, Tryz.results63, go_sem, r0, r1, r2]) rfl ?_
                        have hxx := HX.out
                        cases hxx
                        exact ⟨hK6.inner hk7 (by simp), _, _, M7, rfl, hxn, hM7, he6.trans (he7.low hK6.size) (Nat.le_refl _), hR6.kp hk7 (by simp <;> omega) he7 hR6.box.lt⟩
                    · have n1 : t.isEmpty = false := by cases t with
                        | nil => simp at e6
                        | cons c t => rfl
                      have n2 : (t == [93]) = false := by simp only [not_or] at e6; simpa using e6.2
                      have hx := HX.out
                      rw [if_neg e6] at hx
                      clear e6
                      rcases bx_some hx with ⟨q, h6, rfl⟩ | ⟨⟨y, r7⟩, h6, h7⟩
                      · have H6 := Hid.mk h6
                        clear h6 hx HX
                        go_wp2_with fail
                        refine (token_yes hR5 hl H4.out).mono ?_
                        rintro e w6 ⟨rfl, hR6, hk6⟩
                        obtain ⟨hb2, hb3, hb4, hb5, hxa, hx4, hM5, he4, hK5⟩ := HS.out
                        have hM6 := hM5.kp hk6 (by simpa using hR6.box.out)
                        clear HS hb2 hb3 hb4 hb5 hxa hx4 hM5 he4
                        go_wp2_with fail
                        refine ((hS k (Nat.le_refl _)).err hR6 hM6 hl H6.out).mono ?_
                        rintro e w7 ⟨rfl, hk7⟩
                        go_wp2_with fail
                        exact ⟨rfl, (hK5.trans hk6).trans hk7, rfl⟩
                      · have H6 := Hid.mk h6
                        simp only [Option.some.injEq] at h7
                        have HX := Hid.mk h7
                        clear h6 h7 hx
                        go_wp2_with fail
                        refine (token_yes hR5 hl H4.out).mono ?_
                        rintro e w6' ⟨rfl, hR6, hk6⟩
                        obtain ⟨hb2, hb3, hb4, hb5, hxa, hx4, hM5, he4, hK5⟩ := HS.out
                        have hM6 := hM5.kp hk6 (by simpa using hR6.box.out)
                        have HS := Hid.mk (And.intro hb2 (And.intro hb3 (And.intro hb4 (And.intro hb5 (And.intro hxa (And.intro hx4 (And.intro he4 hK5)))))))
                        clear hb2 hb3 hb4 hb5 hxa hx4 hM5 he4 hK5
                        go_wp2_with fail
                        refine ((hS k (Nat.le_refl _)).ok hR6 hM6 hl H6.out).mono ?_
                        rintro e w7 ⟨A5, c5, M6, rfl, hx5, hM6, he6, hR7, hk7⟩
                        obtain ⟨hb2, hb3, hb4, hb5, hxa, hx4, he4, hK5⟩ := HS.out
                        have hb2 := (hb2.same hk6 (by simp <;> omega)).kp hk7 (by simp <;> omega) he6 (Nat.lt_of_lt_of_le hb2.lt hk6.size)
                        have hb3 := (hb3.same hk6 (by simp <;> omega)).kp hk7 (by simp <;> omega) he6 (Nat.lt_of_lt_of_le hb3.lt hk6.size)
                        have hb4 := (hb4.same hk6 (by simp <;> omega)).kp hk7 (by simp <;> omega) he6 (Nat.lt_of_lt_of_le hb4.lt hk6.size)
                        have hb5 := (hb5.same hk6 (by simp <;> omega)).kp hk7 (by simp <;> omega) he6 (Nat.lt_of_lt_of_le hb5.lt hk6.size)
                        have hx46 := he6
                        have he6 := he4.trans (he6.low (Nat.le_trans hK5.size hk6.size)) (Nat.le_refl _)
                        have hK7 := (hK5.trans hk6).trans hk7
                        obtain ⟨_, f0, f1, f2⟩ := hb5.three
                        obtain ⟨⟨o0, o1, o2⟩, _, _, _⟩ := hb5.three
                        have HS := Hid.mk (And.intro hb2 (And.intro hb3 (And.intro hb4 (And.intro hb5 (And.intro (hxa.ext hx46) (And.intro (hx4.ext hx46) (And.intro hx5 (And.intro hM6 (And.intro he6 (And.intro hR7 hK7))))))))))
                        clear hR6 hk6 hk7 hR5
                        obtain ⟨⟨q0, q1, q2⟩, _, _, _⟩ := hb3.three
                        obtain ⟨⟨q3, q4, q5⟩, _, _, _⟩ := hb4.three
                        obtain ⟨⟨p0, p1, p2⟩, e0, e1, e2⟩ := hb2.three
                        have hz2 := hb2.lt
                        have hz3 := hb3.lt
                        have hz4 := hb4.lt
                        have hz5 := hb5.lt
                        clear hb2 hb3 hb4 hb5 hxa hx4 he4 hx5 hM6 he6 hR7 hK5 hK7
                        go_upto_region 12 with (fail)
                        obtain ⟨hb2, hb3, hb4, hb5, hxa, hx4, hx5, hM6, he6, hR7, hK7⟩ := HS.out
                        have hk8 := Kp.set3 (b := w2.heap.size + 1) (x' := .int .i64 y.op) (y' := .string (bs y.s)) (z' := .slice A5 y.l.length c5) (Kp.refl [w2.heap.size + 1] w7) (.inl (by simp))
                        have hb2 := hb2.same hk8 (by simp <;> omega)
                        have hb3 := hb3.same hk8 (by simp <;> omega)
                        have hb4 := hb4.same hk8 (by simp <;> omega)
                        have hM6 := hM6.kp hk8 (by simpa using hb5.out)
                        have hb5 := hb5.set3 (x' := .int .i64 y.op) (y' := .string (bs y.s)) (z' := .slice A5 y.l.length c5)
                        have hR6 := hR7.same hk8 (by simp <;> omega)
                        have hK6 := hK7.inner hk8 (by simp <;> omega)
                        clear HS hk8 hR7 hK7 q0 q1 q2 q3 q4 q5 p0 p1 p2 e0 e1 e2 hz2 hz3 hz4 hz5 f0 f1 f2 o0 o1 o2
                        generalize (((w7.setCell ⟨w2.heap.size + 1, 0, none⟩ (.int .i64 y.op)).setCell ⟨w2.heap.size + 1, 1, none⟩ (.string (bs y.s))).setCell ⟨w2.heap.size + 1, 2, none⟩ (.slice A5 y.l.length c5)) = w6 at *
                        have HE := Hid.mk (And.intro hb2 (And.intro hxa (And.intro hx4 (And.intro hx5 (And.intro hM6 (And.intro he6 (And.intro hR6 hK6)))))))
                        obtain ⟨⟨q0, q1, q2⟩, _, _, _⟩ := hb3.three
                        obtain ⟨⟨q3, q4, q5⟩, _, _, _⟩ := hb4.three
                        obtain ⟨⟨q6, q7, q8⟩, _, _, _⟩ := hb5.three
                        obtain ⟨⟨p0, p1, p2⟩, f0, f1, f2⟩ := hb2.three
                        have hz2 := hb2.lt
                        clear hb2 hb3 hb4 hb5 hxa hx4 hx5 hM6 he6 hR6 hK6
                        go_wp2_with fail
                        obtain ⟨hb2, hxa, hx4, hx5, hM6, he6, hR6, hK6⟩ := HE.out
                        obtain ⟨M7, hb7, hxn, hM7, he7, hk7⟩ := node3 14 (ob := v.op) (sb := bs v.s) (nb := v.l.length) (od := y.op) (sd := bs y.s) (nd := y.l.length) ⟨rfl, rfl, rfl⟩ ⟨rfl, rfl, rfl⟩ hb2 hM6 hxa hx4 hx5
                        obtain ⟨⟨r0, r1, r2⟩, _, _, _⟩ := hb7.three
                        refine bodyPost_ret (v := .agg #[.int .i64 14, .string (bs []), .slice (some ⟨w6.heap.size, 0, none⟩) 3 3]) (by simp [results, Tryz.results63, go_sem, r0, r1, r2]) rfl ?_
                        have hxx := HX.out
                        cases hxx
                        exact ⟨hK6.inner hk7 (by simp), _, _, M7, rfl, hxn, hM7, he6.trans (he7.low hK6.size) (Nat.le_refl _), hR6.kp hk7 (by simp <;> omega) he7 hR6.box.lt⟩
                · have H3 := Hid.mk h3
                  have H5 := Hid.mk h5
                  simp only [if_true, Option.some.injEq] at h2
                  have HX := Hid.mk h2
                  clear h1 h2 h3 h5 hb2 hb3 hb4 hb5 hxa hx4 hM4 he4
                  go_wp2_with fail
                  refine (take_ne (t := [95]) hR4 hl H3.out H5.out).mono ?_
                  rintro e w5 ⟨rfl, hR5, hk5⟩
                  have hc1 : w5.cell? ⟨g, 1, none⟩ = some (.int .i64 _) := hR5.box.cell 1
                  go_wp2_with fail
                  have hxx := HX.out
                  cases hxx
                  exact ⟨rfl, hK4.trans hk5, rfl⟩
      · have H3 := Hid.mk h3
        have H5 := Hid.mk h5
        simp only [if_true, Option.some.injEq] at h2
        have HX := Hid.mk h2
        clear h1 h2 h3 h5
        go_wp2_with fail
        refine (take_ne (t := [61, 62]) (hR1.alloc _) hl H3.out H5.out).mono ?_
        rintro e w2 ⟨rfl, hR2, hk2⟩
        have hb3 : Box w2 M1 w1.heap.size #[.int .i64 a.op, .string (bs a.s), .slice A1 a.l.length c1] 24 := (Box.new hM1 _ _).same hk2 (by simp <;> omega)
        have hb2 := (hb2.alloc (.cells #[.int .i64 a.op, .string (bs a.s), .slice A1 a.l.length c1] 24)).same hk2 (by simp <;> omega)
        have hM2 := (hM1.alloc (.cells #[.int .i64 a.op, .string (bs a.s), .slice A1 a.l.length c1] 24)).kp hk2 (by simpa using hR2.box.out)
        have hK2 := (hK1.alloc (.cells #[.int .i64 a.op, .string (bs a.s), .slice A1 a.l.length c1] 24)).trans hk2
        obtain ⟨⟨q0, q1, q2⟩, _, _, _⟩ := hb3.three
        obtain ⟨⟨p0, p1, p2⟩, f0, f1, f2⟩ := hb2.three
        have HA := Hid.mk (And.intro hb2 (And.intro hxa (And.intro hM2 (And.intro he1 (And.intro hK2 hR2)))))
        clear hb2 hb3 hxa hM1 hM2 he1 hK1 hK2 hR1 hR2 hk2
        go_wp2_with fail
        obtain ⟨hb2, hxa, hM2, he1, hK2, hR2⟩ := HA.out
        have hk3 := Kp.set3 (b := w.heap.size) (x' := .int .i64 a.op) (y' := .string (bs a.s)) (z' := .slice A1 a.l.length c1) (Kp.refl [w.heap.size] w2) (.inl (by simp))
        obtain ⟨⟨r0, r1, r2⟩, _, _, _⟩ := (hb2.set3 (x' := .int .i64 a.op) (y' := .string (bs a.s)) (z' := .slice A1 a.l.length c1)).three
        refine bodyPost_ret (v := .agg #[.int .i64 a.op, .string (bs a.s), .slice A1 a.l.length c1]) (by simp [results, Tryz.results63, go_sem, r0, r1, r2]) rfl ?_
        have hxx := HX.out
        cases hxx
        exact ⟨hK2.inner hk3 (by simp), _, _, _, rfl, hxa, hM2.kp hk3 (by simpa using hb2.out), he1, hR2.same hk3 (by simp <;> omega)⟩
end Go.Proofs.YtgdnhlckodhhgaaGreatDoor
