/-
  The program's reader: a thing with what stands ahead of it and behind it.
-/
import Derived.Test.YtgdnhlckodhhgaaGreatDoorJB
namespace Go.Proofs.YtgdnhlckodhhgaaGreatDoor
open Go.RowKit
set_option linter.unusedVariables false
def aheads : Array MapEntry := #[{ key := .string ⟨#[126]⟩, val := .int .i64 11, born := 0 }, { key := .string ⟨#[36]⟩, val := .int .i64 12, born := 1 }]
theorem left_size (seen : Array Nat) : (leftOf aheads seen).size = (bif seen.contains 0 then 0 else 1) + (bif seen.contains 1 then 0 else 1) := by
  unfold leftOf aheads
  cases h0 : seen.contains 0 <;> cases h1 : seen.contains 1 <;> simp only [cond_true, cond_false] <;> simp at h0 h1 <;> simp [Array.filter, h0, h1]
theorem push_contains (seen : Array Nat) (a b : Nat) : (seen.push b).contains a = (seen.contains a || a == b) := by
  rw [Bool.eq_iff_iff]; simp
/-- A node over one: its row is laid, and the node stored into a box. -/
theorem node1 {w : World} {M : Heap} {b9 : Nat} {x y z : Value} {t : TypeId} (op : Int) {a : E} {A : Option Addr} {c : Nat}
    (h9 : Box w M b9 #[x, y, z] t) (hM : Mem w M) (ha : ExV M a A c) : ∃ M',
    let W := (((w.setCell ⟨b9, 0, none⟩ (.int .i64 op)).setCell ⟨b9, 1, none⟩ (.string ⟨#[]⟩)).setCell ⟨b9, 2, none⟩ (.slice (some ⟨w.heap.size, 0, none⟩) 1 1)).alloc
      (.cells #[.int .i64 a.op, .string (bs a.s), .slice A a.l.length c] 24)
    Box W M' b9 #[.int .i64 op, .string (bs []), .slice (some ⟨w.heap.size, 0, none⟩) 1 1] t ∧ ExV M' (.mk op [] [a]) (some ⟨w.heap.size, 0, none⟩) 1 ∧ Mem W M' ∧ Ext w.heap.size M M' ∧ Kp [b9] w W := by
  have hk : Kp [b9] w (((w.setCell ⟨b9, 0, none⟩ (.int .i64 op)).setCell ⟨b9, 1, none⟩ (.string ⟨#[]⟩)).setCell ⟨b9, 2, none⟩ (.slice (some ⟨w.heap.size, 0, none⟩) 1 1)) := (Kp.refl [b9] w).set3 (.inl (by simp))
  have hb3 : Box _ M b9 #[.int .i64 op, .string (bs []), .slice (some ⟨w.heap.size, 0, none⟩) 1 1] t := h9.set3 (x' := .int .i64 op) (y' := .string ⟨#[]⟩) (z' := .slice (some ⟨w.heap.size, 0, none⟩) 1 1)
  have hsz : (((w.setCell ⟨b9, 0, none⟩ (.int .i64 op)).setCell ⟨b9, 1, none⟩ (.string ⟨#[]⟩)).setCell ⟨b9, 2, none⟩ (.slice (some ⟨w.heap.size, 0, none⟩) 1 1)).heap.size = w.heap.size := by simp [World.setCell]
  have hM3 := hM.kp hk (by simpa using h9.out)
  generalize (((w.setCell ⟨b9, 0, none⟩ (.int .i64 op)).setCell ⟨b9, 1, none⟩ (.string ⟨#[]⟩)).setCell ⟨b9, 2, none⟩ (.slice (some ⟨w.heap.size, 0, none⟩) 1 1)) = w3 at *
  have hrow : (w3.alloc (.cells #[.int .i64 a.op, .string (bs a.s), .slice A a.l.length c] 24)).heap[w.heap.size]? = some _ := hsz ▸ heap_alloc_new _ _
  have hno : M w.heap.size = none := hM.ge (Nat.le_refl _)
  have hlt := h9.lt
  refine ⟨M.put w.heap.size (.cells #[.int .i64 a.op, .string (bs a.s), .slice A a.l.length c] 24), (hb3.alloc _).put (by omega), ?_, (hM3.alloc _).put hrow, Ext.put (Nat.le_refl _) hno, hk.alloc _⟩
  have he : Ext w.heap.size M (M.put w.heap.size (.cells #[.int .i64 a.op, .string (bs a.s), .slice A a.l.length c] 24)) := Ext.put (Nat.le_refl _) hno
  exact ExV.node (ps := [(a, A, c)]) (spare := []) op [] Heap.put_same (by simp [flat]) (by simp) ((AllV.one ha).ext he)
theorem G7 (k : Nat) (r : Bs) : G (k + 1) (.lv 7 r) = lf (token r) fun (t, r1) => if t = [126] then bx (G k (.lv 7 (r1.drop 1))) fun (x, r2) => some (.ok (.mk 11 [] [x], r2))
      else if t = [36] then bx (G k (.lv 7 (r1.drop 1))) fun (x, r2) => some (.ok (.mk 12 [] [x], r2)) else bx (G k (.lv 8 r1)) fun (a, r2) => G k (.behind a r2) := by simp only [G]
theorem token_some {r t : Bs} (h : tk (sk r) = some t) : token r = .ok (t, sk r) := by unfold token; rw [h]
theorem token_none {r : Bs} (h : tk (sk r) = none) : token r = .error (sk r) := by unfold token; rw [h]
set_option maxRecDepth 100000 in
set_option maxHeartbeats 4000000 in
theorem ahead_spec {k g : Nat} {l r : Bs} {w : World} {M : Heap} {x : Ex (E × Bs)} (hS : ∀ k', k' ≤ k → LvSpec 263 7 k') (hA : ∀ k', k' ≤ k → LvSpec 266 8 k')
    (hR : Rd w M g l r) (hM : Mem w M) (hl : l.length ≤ 6000) (hx : G (k + 1) (.lv 7 r) = some x) :
    Calls Tryz.prog 263 #[.pointer (some ⟨g, 0, none⟩)] w (GEnd w M g l x) := by
  have hmm := @run_makeMap Tryz.prog
  have hi1 : (Instr.mapUpdate 224 (.map (some (w.heap.size + 1))) (.string ⟨#[126]⟩) (.int .i64 11)).run Tryz.prog ((w.alloc (.cells #[.int .i64 0, .string ⟨#[]⟩, .slice none 0 0] 24)).alloc (.map #[] 0)) = .ok () ((w.alloc (.cells #[.int .i64 0, .string ⟨#[]⟩, .slice none 0 0] 24)).alloc (.map #[{ key := .string ⟨#[126]⟩, val := .int .i64 11, born := 0 }] 1)) :=
    run_insert_new _ _ (by simp) #[] 0 _ _ Tryz.underlying224 Tryz.underlying9 (by simp [MapKept.IsKey]) (by simp)
  have hi2 : (Instr.mapUpdate 224 (.map (some (w.heap.size + 1))) (.string ⟨#[36]⟩) (.int .i64 12)).run Tryz.prog ((w.alloc (.cells #[.int .i64 0, .string ⟨#[]⟩, .slice none 0 0] 24)).alloc (.map #[{ key := .string ⟨#[126]⟩, val := .int .i64 11, born := 0 }] 1)) = .ok () ((w.alloc (.cells #[.int .i64 0, .string ⟨#[]⟩, .slice none 0 0] 24)).alloc (.map aheads 2)) :=
    run_insert_new _ _ (by simp) #[{ key := .string ⟨#[126]⟩, val := .int .i64 11, born := 0 }] 1 _ _ Tryz.underlying224 Tryz.underlying9 (by simp [MapKept.IsKey]) (by simp [MapKept.IsKey])
  have hi3 : (Instr.range 224 (.map (some (w.heap.size + 1)))).run Tryz.prog ((w.alloc (.cells #[.int .i64 0, .string ⟨#[]⟩, .slice none 0 0] 24)).alloc (.map aheads 2)) = .ok (.pointer (some ⟨w.heap.size + 2, 0, none⟩)) (((w.alloc (.cells #[.int .i64 0, .string ⟨#[]⟩, .slice none 0 0] 24)).alloc (.map aheads 2)).alloc (.mapIter (some (w.heap.size + 1)) 2 #[] 2)) := by
    have h := run_range_map (P := Tryz.prog) ((w.alloc (.cells #[.int .i64 0, .string ⟨#[]⟩, .slice none 0 0] 24)).alloc (.map aheads 2)) _ _ _ (w.heap.size + 1) aheads 2 Tryz.underlying224 (row_at _ _ _)
    rwa [size_at] at h
  have HX := Hid.mk hx
  clear hx
  go_enter Tryz.func263, Tryz.ntmps263
  go_wp2_with fail
  clear hi1 hi2 hi3 hmm
  have hgw : g < w.heap.size := hR.box.lt
  go_loopg [] 3 (fun kk wr => ∃ seen r', Blk wr M (w.heap.size + 1) (.map aheads 2) ∧ Blk wr M (w.heap.size + 2) (.mapIter (some (w.heap.size + 1)) 2 seen 2) ∧ (leftOf aheads seen).size < kk ∧ Box wr M w.heap.size #[.int .i64 0, .string ⟨#[]⟩, .slice none 0 0] 24 ∧ Mem wr M ∧ Rd wr M g l r' ∧ ((seen = #[] ∧ r' = r) ∨ r' = sk r ∧ ∃ t, tk (sk r) = some t) ∧ Kp [g] w wr ∧ (tk (sk r) = some [126] → seen.contains 0 = false) ∧ (tk (sk r) = some [36] → seen.contains 1 = false))
  case atStart =>
    have h1 := (hM.alloc (.cells #[.int .i64 0, .string ⟨#[]⟩, .slice none 0 0] 24)).alloc (.map aheads 2)
    refine ⟨#[], r, ⟨?_, hM.ge (by omega)⟩, ⟨?_, hM.ge (by omega)⟩, by rw [left_size]; simp, ((Box.new hM _ _).alloc _).alloc _, h1.alloc _, ((hR.alloc _).alloc _).alloc _, .inl ⟨rfl, rfl⟩, (((Kp.refl _ _).alloc _).alloc _).alloc _, fun _ => by simp, fun _ => by simp⟩
    · exact (Below.heap_alloc _ _ _ (by simp)).trans (row_at _ _ _)
    · have h := heap_alloc_new ((w.alloc (.cells #[.int .i64 0, .string ⟨#[]⟩, .slice none 0 0] 24)).alloc (.map aheads 2)) (.mapIter (some (w.heap.size + 1)) 2 #[] 2)
      rwa [size_at] at h
  case round =>
    obtain ⟨seen, r', hbm, hbi, hleft, hb2, hM', hR', hr', hK, ht, hd⟩ := hrel
    have hsk : sk r' = sk r := by rcases hr' with ⟨_, rfl⟩ | ⟨rfl, _⟩ <;> simp [sk_sk]
    rcases run_next (P := Tryz.prog) 0 (w.heap.size + 1) 2 2 (w.heap.size + 2) seen aheads 2 hbm.blk hbi.blk (by simp [aheads]) (Nat.le_refl _) with ⟨h0, hrun⟩ | ⟨e, hem, w1, hk1, hbi1, hsz1, hrun⟩
    · have htk : ∃ t, tk (sk r) = some t ∧ t ≠ [126] ∧ t ≠ [36] := by
        rw [left_size] at h0
        have h1 : seen.contains 0 = true := by cases h : seen.contains 0 with
          | true => rfl
          | false => rw [h] at h0; simp only [cond_false] at h0; omega
        have h2 : seen.contains 1 = true := by cases h : seen.contains 1 with
          | true => rfl
          | false => rw [h] at h0; simp only [cond_false] at h0; omega
        have h3 : ∃ t, tk (sk r) = some t := by
          rcases hr' with ⟨rfl, _⟩ | ⟨_, h⟩
          · simp at h1
          · exact h
        obtain ⟨t, h3⟩ := h3
        refine ⟨t, h3, ?_, ?_⟩
        · rintro rfl; rw [ht h3] at h1; cases h1
        · rintro rfl; rw [hd h3] at h2; cases h2
      obtain ⟨t, htk, hne1, hne2⟩ := htk
      have hx := HX.out
      rw [G7, token_some htk] at hx
      simp only [lf, if_neg hne1, if_neg hne2] at hx
      have hr2 : r' = sk r := by
        rcases hr' with ⟨rfl, _⟩ | ⟨h, _⟩
        · rw [left_size] at h0; simp at h0
        · exact h
      subst hr2
      clear htk hne1 hne2 hr' ht hd h0 hleft hsk
      rcases bx_some hx with ⟨q, h6, rfl⟩ | ⟨⟨a, r1⟩, h6, h7⟩
      · have H6 := Hid.mk h6
        clear h6 hx
        go_wp2_with fail
        refine ((hA k (Nat.le_refl _)).err hR' hM' hl H6.out).mono ?_
        rintro e w1 ⟨rfl, hk1⟩
        go_wp2_with fail
        exact ⟨rfl, hK.trans hk1, rfl⟩
      · have H6 := Hid.mk h6
        have H7 := Hid.mk h7
        clear h6 h7 hx
        go_wp2_with fail
        refine ((hA k (Nat.le_refl _)).ok hR' hM' hl H6.out).mono ?_
        rintro e w1 ⟨A1, c1, M1, rfl, hx1, hM1, he1, hR1, hk1⟩
        have hlt2 := hb2.lt
        have hb21 := hb2.kp hk1 (by simp; omega) he1 hlt2
        have hsz : w.heap.size < w1.heap.size := Nat.lt_of_lt_of_le hlt2 hk1.size
        clear hrun hbm hbi
        go_wp2_with fail
        go_loopg [] k (fun kk wr => ∃ a' r' M' A c, G kk (.behind a' r') = some x ∧ kk ≤ k ∧ Box wr M' w1.heap.size #[.int .i64 a'.op, .string (bs a'.s), .slice A a'.l.length c] 24 ∧ Box wr M' w.heap.size #[.int .i64 0, .string ⟨#[]⟩, .slice none 0 0] 24 ∧ ExV M' a' A c ∧ Mem wr M' ∧ Ext w.heap.size M M' ∧ Rd wr M' g l r' ∧ Kp [g] w wr)
        case atStart =>
          exact ⟨a, r1, M1, A1, c1, H7.out, Nat.le_refl _, Box.new hM1 _ _, hb21.alloc _, hx1, hM1.alloc _, he1.low hK.size, hR1.alloc _, (hK.trans hk1).alloc _⟩
        case round =>
          obtain ⟨a', r2, M', A, c, hG, hkk, hb5, hb2, hx2, hM2, he2, hR2, hK2⟩ := hrel
          clear hM' hR' hK hb21 hx1 hM1 he1 hR1 hk1 H7
          cases gk with
          | zero => simp [G] at hG
          | succ kk =>
          simp only [G] at hG
          rcases lf_some hG with ⟨q, h1, rfl⟩ | ⟨⟨t, r3⟩, h1, h2⟩
          · obtain ⟨rfl, h3⟩ := token_err h1
            have H3 := Hid.mk h3
            clear h1 h3 hG
            go_wp2_with fail
            refine (token_no hR2 hl H3.out).mono ?_
            rintro e w3 ⟨rfl, h4, hk3⟩
            go_wp2_with fail
            exact ⟨rfl, hK2.trans hk3, rfl⟩
          · dsimp only at h2
            obtain ⟨rfl, h3⟩ := token_ok h1
            have H3 := Hid.mk h3
            clear h1 h3 hG
            by_cases e0 : t = [42]
            ·
              subst e0
              have ho : behindOp [42] = some 8 := rfl
              simp only [ho] at h2
              have H2' := Hid.mk h2
              clear h2 ho
              go_wp2_with fail
              refine (token_yes hR2 hl H3.out).mono ?_
              rintro e w3 ⟨rfl, hR3, hk3⟩
              have hlt := bs_toList [42]
              have hb5' := hb5.same hk3 (by simp; omega)
              have hb2' := hb2.same hk3 (by simp; omega)
              obtain ⟨⟨q0, q1, q2⟩, f0, f1, f2⟩ := hb5'.three
              have hc1 : w3.cell? ⟨g, 1, none⟩ = some (.int .i64 (at_ l (sk r2) : Nat)) := hR3.box.cell 1
              have hf1 : w3.frozen? ⟨g, 1, none⟩ = false := hR3.box.free 1
              have hz1 : 1 ≤ (sk r2).length := by have := (tk_len H3.out).2.1; simpa using this
              have hp : at_ l (sk r2) + (sk r2).length = l.length := by have := hR3.suf.length_le; simp [at_]; omega
              have HC := Hid.mk (And.intro hb5' (And.intro hb2' (And.intro hx2 (And.intro hM2 (And.intro he2 (And.intro hR3 (And.intro hK2 hk3)))))))
              have Hp := Hid.mk (rfl : at_ l (sk r2) = at_ l (sk r2))
              generalize hpe : at_ l (sk r2) = p at hc1 hp
              have Hpe := Hid.mk hpe
              have hz5 := hb5'.lt
              clear hb5 hb2 hx2 hM2 he2 hR2 hK2 hb5' hb2' hR3 hk3 hpe
              go_wp2_with fail
              obtain ⟨hb5, hb2, hx2, hM2, he2, hR3, hK2, hk3⟩ := HC.out
              have hM3 := hM2.kp hk3 (by simpa using hR3.box.out)
              have hk4 : Kp [g] w3 (w3.setCell ⟨g, 1, none⟩ (.int .i64 ((p : Int) + 1))) := (Kp.refl [g] w3).setCell (.inl (by simp)) _
              have hb5 := hb5.same hk4 (by simp; omega)
              have hb2 := hb2.same hk4 (by simp; omega)
              have hM4 := hM3.kp hk4 (by simpa using hR3.box.out)
              have hR4 : Rd (w3.setCell ⟨g, 1, none⟩ (.int .i64 ((p : Int) + 1))) _ g l ((sk r2).drop 1) := Rd.mk' (hR3.box.set 1 _) ((List.drop_suffix _ _).trans hR3.suf) (p := p + 1) (by rw [← Hpe.out]; simp [at_]; omega)
              have hz4 : (w3.setCell ⟨g, 1, none⟩ (.int .i64 ((p : Int) + 1))).heap.size = w3.heap.size := by simp [World.setCell]
              go_roundg kk
              case measure => omega
              case rel =>
                have hn := node1 8 hb5 hM4 hx2
                rw [hz4] at hn
                obtain ⟨M4, hb6, hxn, hM6, he4, hk6⟩ := hn
                have hz2 := hb2.lt
                rw [hz4] at hz2
                refine ⟨_, (sk r2).drop 1, M4, some ⟨w3.heap.size, 0, none⟩, 1, H2'.out, by omega, hb6, hb2.kp hk6 (by simp; omega) he4 hz2, hxn, hM6, ?_, ?_, ?_⟩
                · exact he2.trans (he4.low (Nat.le_trans hK2.size hk3.size)) (Nat.le_refl _)
                · exact hR4.kp hk6 (by simp; omega) he4 hR3.box.lt
                · exact ((hK2.trans hk3).trans hk4).inner hk6 (by simp; omega)
            by_cases e0b : t = [43]
            · have e0 := e0b
              clear e0b
              subst e0
              have ho : behindOp [43] = some 9 := rfl
              simp only [ho] at h2
              have H2' := Hid.mk h2
              clear h2 ho
              go_wp2_with fail
              refine (token_yes hR2 hl H3.out).mono ?_
              rintro e w3 ⟨rfl, hR3, hk3⟩
              have hlt := bs_toList [43]
              have hb5' := hb5.same hk3 (by simp; omega)
              have hb2' := hb2.same hk3 (by simp; omega)
              obtain ⟨⟨q0, q1, q2⟩, f0, f1, f2⟩ := hb5'.three
              have hc1 : w3.cell? ⟨g, 1, none⟩ = some (.int .i64 (at_ l (sk r2) : Nat)) := hR3.box.cell 1
              have hf1 : w3.frozen? ⟨g, 1, none⟩ = false := hR3.box.free 1
              have hz1 : 1 ≤ (sk r2).length := by have := (tk_len H3.out).2.1; simpa using this
              have hp : at_ l (sk r2) + (sk r2).length = l.length := by have := hR3.suf.length_le; simp [at_]; omega
              have HC := Hid.mk (And.intro hb5' (And.intro hb2' (And.intro hx2 (And.intro hM2 (And.intro he2 (And.intro hR3 (And.intro hK2 hk3)))))))
              have Hp := Hid.mk (rfl : at_ l (sk r2) = at_ l (sk r2))
              generalize hpe : at_ l (sk r2) = p at hc1 hp
              have Hpe := Hid.mk hpe
              have hz5 := hb5'.lt
              clear hb5 hb2 hx2 hM2 he2 hR2 hK2 hb5' hb2' hR3 hk3 hpe
              go_wp2_with fail
              obtain ⟨hb5, hb2, hx2, hM2, he2, hR3, hK2, hk3⟩ := HC.out
              have hM3 := hM2.kp hk3 (by simpa using hR3.box.out)
              have hk4 : Kp [g] w3 (w3.setCell ⟨g, 1, none⟩ (.int .i64 ((p : Int) + 1))) := (Kp.refl [g] w3).setCell (.inl (by simp)) _
              have hb5 := hb5.same hk4 (by simp; omega)
              have hb2 := hb2.same hk4 (by simp; omega)
              have hM4 := hM3.kp hk4 (by simpa using hR3.box.out)
              have hR4 : Rd (w3.setCell ⟨g, 1, none⟩ (.int .i64 ((p : Int) + 1))) _ g l ((sk r2).drop 1) := Rd.mk' (hR3.box.set 1 _) ((List.drop_suffix _ _).trans hR3.suf) (p := p + 1) (by rw [← Hpe.out]; simp [at_]; omega)
              have hz4 : (w3.setCell ⟨g, 1, none⟩ (.int .i64 ((p : Int) + 1))).heap.size = w3.heap.size := by simp [World.setCell]
              go_roundg kk
              case measure => omega
              case rel =>
                have hn := node1 9 hb5 hM4 hx2
                rw [hz4] at hn
                obtain ⟨M4, hb6, hxn, hM6, he4, hk6⟩ := hn
                have hz2 := hb2.lt
                rw [hz4] at hz2
                refine ⟨_, (sk r2).drop 1, M4, some ⟨w3.heap.size, 0, none⟩, 1, H2'.out, by omega, hb6, hb2.kp hk6 (by simp; omega) he4 hz2, hxn, hM6, ?_, ?_, ?_⟩
                · exact he2.trans (he4.low (Nat.le_trans hK2.size hk3.size)) (Nat.le_refl _)
                · exact hR4.kp hk6 (by simp; omega) he4 hR3.box.lt
                · exact ((hK2.trans hk3).trans hk4).inner hk6 (by simp; omega)
            by_cases e0c : t = [63]
            · have e0 := e0c
              clear e0c
              subst e0
              have ho : behindOp [63] = some 10 := rfl
              simp only [ho] at h2
              have H2' := Hid.mk h2
              clear h2 ho
              go_wp2_with fail
              refine (token_yes hR2 hl H3.out).mono ?_
              rintro e w3 ⟨rfl, hR3, hk3⟩
              have hlt := bs_toList [63]
              have hb5' := hb5.same hk3 (by simp; omega)
              have hb2' := hb2.same hk3 (by simp; omega)
              obtain ⟨⟨q0, q1, q2⟩, f0, f1, f2⟩ := hb5'.three
              have hc1 : w3.cell? ⟨g, 1, none⟩ = some (.int .i64 (at_ l (sk r2) : Nat)) := hR3.box.cell 1
              have hf1 : w3.frozen? ⟨g, 1, none⟩ = false := hR3.box.free 1
              have hz1 : 1 ≤ (sk r2).length := by have := (tk_len H3.out).2.1; simpa using this
              have hp : at_ l (sk r2) + (sk r2).length = l.length := by have := hR3.suf.length_le; simp [at_]; omega
              have HC := Hid.mk (And.intro hb5' (And.intro hb2' (And.intro hx2 (And.intro hM2 (And.intro he2 (And.intro hR3 (And.intro hK2 hk3)))))))
              have Hp := Hid.mk (rfl : at_ l (sk r2) = at_ l (sk r2))
              generalize hpe : at_ l (sk r2) = p at hc1 hp
              have Hpe := Hid.mk hpe
              have hz5 := hb5'.lt
              clear hb5 hb2 hx2 hM2 he2 hR2 hK2 hb5' hb2' hR3 hk3 hpe
              go_wp2_with fail
              obtain ⟨hb5, hb2, hx2, hM2, he2, hR3, hK2, hk3⟩ := HC.out
              have hM3 := hM2.kp hk3 (by simpa using hR3.box.out)
              have hk4 : Kp [g] w3 (w3.setCell ⟨g, 1, none⟩ (.int .i64 ((p : Int) + 1))) := (Kp.refl [g] w3).setCell (.inl (by simp)) _
              have hb5 := hb5.same hk4 (by simp; omega)
              have hb2 := hb2.same hk4 (by simp; omega)
              have hM4 := hM3.kp hk4 (by simpa using hR3.box.out)
              have hR4 : Rd (w3.setCell ⟨g, 1, none⟩ (.int .i64 ((p : Int) + 1))) _ g l ((sk r2).drop 1) := Rd.mk' (hR3.box.set 1 _) ((List.drop_suffix _ _).trans hR3.suf) (p := p + 1) (by rw [← Hpe.out]; simp [at_]; omega)
              have hz4 : (w3.setCell ⟨g, 1, none⟩ (.int .i64 ((p : Int) + 1))).heap.size = w3.heap.size := by simp [World.setCell]
              go_roundg kk
              case measure => omega
              case rel =>
                have hn := node1 10 hb5 hM4 hx2
                rw [hz4] at hn
                obtain ⟨M4, hb6, hxn, hM6, he4, hk6⟩ := hn
                have hz2 := hb2.lt
                rw [hz4] at hz2
                refine ⟨_, (sk r2).drop 1, M4, some ⟨w3.heap.size, 0, none⟩, 1, H2'.out, by omega, hb6, hb2.kp hk6 (by simp; omega) he4 hz2, hxn, hM6, ?_, ?_, ?_⟩
                · exact he2.trans (he4.low (Nat.le_trans hK2.size hk3.size)) (Nat.le_refl _)
                · exact hR4.kp hk6 (by simp; omega) he4 hR3.box.lt
                · exact ((hK2.trans hk3).trans hk4).inner hk6 (by simp; omega)
            have ho : behindOp t = none := by simp [behindOp, e0, e0b, e0c]
            simp only [ho, Option.some.injEq] at h2
            have H2' := Hid.mk h2
            have n1 : (t == [42]) = false := by simpa using e0
            have n2 : (t == [43]) = false := by simpa using e0b
            have n3 : (t == [63]) = false := by simpa using e0c
            clear h2 ho e0 e0b e0c
            have hlt := bs_toList t
            go_wp2_with fail
            refine (token_yes hR2 hl H3.out).mono ?_
            rintro e w3 ⟨rfl, hR3, hk3⟩
            have hb5' := hb5.same hk3 (by simp; omega)
            have hb2' := hb2.same hk3 (by simp; omega)
            obtain ⟨⟨q0, q1, q2⟩, _, _, _⟩ := hb5'.three
            obtain ⟨⟨p0, p1, p2⟩, f0, f1, f2⟩ := hb2'.three
            have HC := Hid.mk (And.intro hb5' (And.intro hb2' (And.intro hx2 (And.intro hM2 (And.intro he2 (And.intro hR3 (And.intro hK2 hk3)))))))
            clear hb5 hb2 hx2 hM2 he2 hR2 hK2 hb5' hb2' hR3 hk3
            go_wp2_with fail
            obtain ⟨hb5, hb2, hx2, hM2, he2, hR3, hK2, hk3⟩ := HC.out
            have hk4 := Kp.set3 (b := w.heap.size) (x' := .int .i64 a'.op) (y' := .string (bs a'.s)) (z' := .slice A a'.l.length c) (Kp.refl [w.heap.size] w3) (.inl (by simp))
            obtain ⟨⟨r0, r1, r2⟩, _, _, _⟩ := (hb2.set3 (x' := .int .i64 a'.op) (y' := .string (bs a'.s)) (z' := .slice A a'.l.length c)).three
            refine bodyPost_ret (v := .agg #[.int .i64 a'.op, .string (bs a'.s), .slice A a'.l.length c]) (by simp [results, Tryz.results263, go_sem, r0, r1, r2]) rfl ?_
            rw [← H2'.out]
            exact ⟨(hK2.trans hk3).set3 (.inr (Nat.le_refl _)), _, _, _, rfl, hx2, (hM2.kp hk3 (by simpa using hR3.box.out)).kp hk4 (by simpa using hb2.out), he2, hR3.same hk4 (by simp; omega)⟩
    · have hen := run_entry (P := Tryz.prog) (w.heap.size + 1) 2 (w.heap.size + 2) seen aheads 2 e ((hbm.same hk1 (by simp)).blk) hbi1 (by have := hem; simp [leftOf] at this; simpa using this.1) (by decide)
      have hR1 := hR'.same hk1 (by simp; omega)
      have hM1 := hM'.kp hk1 (by simpa using hbi.out)
      have hel : (e = { key := .string ⟨#[126]⟩, val := .int .i64 11, born := 0 } ∨ e = { key := .string ⟨#[36]⟩, val := .int .i64 12, born := 1 }) ∧ seen.contains e.born = false := by
        have := hem
        simp only [leftOf, Array.toList_filter, List.mem_filter] at this
        exact ⟨by simpa [aheads] using this.1, by simpa using this.2⟩
      have hb21 := hb2.same hk1 (by simp)
      have hK1 := hK.inner hk1 (by simp)
      have hbm1 := hbm.same hk1 (by simp)
      have hbi1' : Blk w1 M (w.heap.size + 2) (.mapIter (some (w.heap.size + 1)) 2 (seen.push e.born) 2) := ⟨hbi1, hbi.out⟩
      have HA := Hid.mk (And.intro hbm1 (And.intro hbi1' (And.intro hb21 (And.intro hM1 (And.intro hR1 (And.intro hK1 (And.intro hleft (And.intro ht hd))))))))
      clear hbm hbi hleft hb2 hM' hR' hr' hK ht hd hb21 hK1 hbm1 hbi1' hbi1 hem hk1
      cases htk : tk (sk r) with
      | none =>
        have hx := HX.out
        rw [G7, token_none htk] at hx
        simp only [lf, Option.some.injEq] at hx
        subst hx
        have H3 := Hid.mk (hsk ▸ htk : tk (sk r') = none)
        clear htk
        obtain ⟨rfl | rfl, hc⟩ := hel
        all_goals
          go_wp2_with fail
          refine (take_no _ hR1 hl H3.out).mono ?_
          rintro e w2 ⟨rfl, h4, hk2⟩
          go_wp2_with fail
          exact ⟨rfl, HA.out.2.2.2.2.2.1.trans hk2, rfl⟩
      | some t =>
        have H3 := Hid.mk (hsk ▸ htk : tk (sk r') = some t)
        have HT := Hid.mk htk
        clear htk
        obtain ⟨rfl | rfl, hc⟩ := hel
        · by_cases e1 : t = [126]
          · subst e1
            have hx := HX.out
            rw [G7, token_some HT.out] at hx
            simp only [lf, if_true] at hx
            rcases bx_some hx with ⟨q, h6, rfl⟩ | ⟨⟨b, r3⟩, h6, h7⟩
            · have H6 := Hid.mk h6
              clear h6 hx
              go_wp2_with fail
              refine (take_yes (t := [126]) hR1 hl H3.out).mono ?_
              rintro e w2 ⟨rfl, hR2, hk2⟩
              go_wp2_with fail
              refine ((hS k (Nat.le_refl _)).err (r := (sk r).drop 1) (hsk ▸ hR2) (hM1.kp hk2 (by simpa using hR2.box.out)) hl H6.out).mono ?_
              rintro e w3 ⟨rfl, hk3⟩
              go_wp2_with fail
              exact ⟨rfl, (HA.out.2.2.2.2.2.1.trans hk2).trans hk3, rfl⟩
            · have H6 := Hid.mk h6
              simp only [Option.some.injEq] at h7
              have H7 := Hid.mk h7
              clear h6 h7 hx
              go_wp2_with fail
              refine (take_yes (t := [126]) hR1 hl H3.out).mono ?_
              rintro e w2 ⟨rfl, hR2, hk2⟩
              go_wp2_with fail
              refine ((hS k (Nat.le_refl _)).ok (r := (sk r).drop 1) (hsk ▸ hR2) (hM1.kp hk2 (by simpa using hR2.box.out)) hl H6.out).mono ?_
              rintro e w3 ⟨A3, c3, M3, rfl, hx3, hM3, he3, hR3, hk3⟩
              obtain ⟨hbm, hbi, hb2, hM', hR', hK, hleft, ht, hd⟩ := HA.out
              have hlt2 := hb2.lt
              have hb2' := (hb2.same hk2 (by simp; omega)).kp hk3 (by simp; omega) he3 (Nat.lt_of_lt_of_le hlt2 hk2.size)
              obtain ⟨⟨q0, q1, q2⟩, f0, f1, f2⟩ := hb2'.three
              have hlt3 := hb2'.lt
              have HB := Hid.mk (And.intro hb2' (And.intro hx3 (And.intro hM3 (And.intro he3 (And.intro hR3 (And.intro hK (And.intro hk2 hk3)))))))
              clear hbm hbi hb2 hM' hR' hK hleft ht hd hb2' hx3 hM3 he3 hR3 hk2 hk3 hR2
              go_wp2_with fail
              obtain ⟨hb2, hx3, hM3, he3, hR3, hK, hk2, hk3⟩ := HB.out
              obtain ⟨M4, hb4, hxn, hM4, he4, hk4⟩ := node1 11 hb2 hM3 hx3
              obtain ⟨⟨r0, r1, r2⟩, _, _, _⟩ := hb4.three
              refine bodyPost_ret (v := .agg #[.int .i64 11, .string (bs []), .slice (some ⟨w3.heap.size, 0, none⟩) 1 1]) (by simp [results, Tryz.results263, go_sem, r0, r1, r2]) rfl ?_
              rw [← H7.out]
              exact ⟨((hK.trans hk2).trans hk3).inner hk4 (by simp), _, _, M4, rfl, hxn, hM4, (he3.low (Nat.le_trans hK.size hk2.size)).trans (he4.low (Nat.le_trans hK.size (Nat.le_trans hk2.size hk3.size))) (Nat.le_refl _), hR3.kp hk4 (by simp; omega) he4 hR3.box.lt⟩
          · have E1 := Hid.mk e1
            clear e1
            go_wp2_with fail
            refine (take_ne (t := [126]) hR1 hl H3.out E1.out).mono ?_
            rintro e w2 ⟨rfl, hR2, hk2⟩
            go_wp2_with fail
            obtain ⟨hbm, hbi, hb2, hM', hR', hK, hleft, ht, hd⟩ := HA.out
            go_roundg (gk - 1)
            case measure => omega
            case rel =>
              refine ⟨_, sk r, hbm.same hk2 (by simp; omega), hbi.same hk2 (by simp; omega), ?_, hb2.same hk2 (by simp; omega), hM'.kp hk2 (by simpa using hR'.box.out), hsk ▸ hR2, .inr ⟨rfl, t, HT.out⟩, hK.trans hk2, ?_, ?_⟩
              · rw [left_size] at hleft ⊢; simp only [push_contains, hc, Bool.or_false, Bool.false_or, beq_self_eq_true, cond_true, cond_false, Nat.reduceBEq] at hleft ⊢; omega
              · intro h; rw [HT.out] at h; exact absurd (Option.some.inj h) E1.out
              · intro h; rw [push_contains, hd h]; rfl
        · by_cases e1 : t = [36]
          · subst e1
            have hx := HX.out
            rw [G7, token_some HT.out] at hx
            simp only [lf, if_true, if_neg (show ¬ ([36] : Bs) = [126] by decide)] at hx
            rcases bx_some hx with ⟨q, h6, rfl⟩ | ⟨⟨b, r3⟩, h6, h7⟩
            · have H6 := Hid.mk h6
              clear h6 hx
              go_wp2_with fail
              refine (take_yes (t := [36]) hR1 hl H3.out).mono ?_
              rintro e w2 ⟨rfl, hR2, hk2⟩
              go_wp2_with fail
              refine ((hS k (Nat.le_refl _)).err (r := (sk r).drop 1) (hsk ▸ hR2) (hM1.kp hk2 (by simpa using hR2.box.out)) hl H6.out).mono ?_
              rintro e w3 ⟨rfl, hk3⟩
              go_wp2_with fail
              exact ⟨rfl, (HA.out.2.2.2.2.2.1.trans hk2).trans hk3, rfl⟩
            · have H6 := Hid.mk h6
              simp only [Option.some.injEq] at h7
              have H7 := Hid.mk h7
              clear h6 h7 hx
              go_wp2_with fail
              refine (take_yes (t := [36]) hR1 hl H3.out).mono ?_
              rintro e w2 ⟨rfl, hR2, hk2⟩
              go_wp2_with fail
              refine ((hS k (Nat.le_refl _)).ok (r := (sk r).drop 1) (hsk ▸ hR2) (hM1.kp hk2 (by simpa using hR2.box.out)) hl H6.out).mono ?_
              rintro e w3 ⟨A3, c3, M3, rfl, hx3, hM3, he3, hR3, hk3⟩
              obtain ⟨hbm, hbi, hb2, hM', hR', hK, hleft, ht, hd⟩ := HA.out
              have hlt2 := hb2.lt
              have hb2' := (hb2.same hk2 (by simp; omega)).kp hk3 (by simp; omega) he3 (Nat.lt_of_lt_of_le hlt2 hk2.size)
              obtain ⟨⟨q0, q1, q2⟩, f0, f1, f2⟩ := hb2'.three
              have hlt3 := hb2'.lt
              have HB := Hid.mk (And.intro hb2' (And.intro hx3 (And.intro hM3 (And.intro he3 (And.intro hR3 (And.intro hK (And.intro hk2 hk3)))))))
              clear hbm hbi hb2 hM' hR' hK hleft ht hd hb2' hx3 hM3 he3 hR3 hk2 hk3 hR2
              go_wp2_with fail
              obtain ⟨hb2, hx3, hM3, he3, hR3, hK, hk2, hk3⟩ := HB.out
              obtain ⟨M4, hb4, hxn, hM4, he4, hk4⟩ := node1 12 hb2 hM3 hx3
              obtain ⟨⟨r0, r1, r2⟩, _, _, _⟩ := hb4.three
              refine bodyPost_ret (v := .agg #[.int .i64 12, .string (bs []), .slice (some ⟨w3.heap.size, 0, none⟩) 1 1]) (by simp [results, Tryz.results263, go_sem, r0, r1, r2]) rfl ?_
              rw [← H7.out]
              exact ⟨((hK.trans hk2).trans hk3).inner hk4 (by simp), _, _, M4, rfl, hxn, hM4, (he3.low (Nat.le_trans hK.size hk2.size)).trans (he4.low (Nat.le_trans hK.size (Nat.le_trans hk2.size hk3.size))) (Nat.le_refl _), hR3.kp hk4 (by simp; omega) he4 hR3.box.lt⟩
          · have E1 := Hid.mk e1
            clear e1
            go_wp2_with fail
            refine (take_ne (t := [36]) hR1 hl H3.out E1.out).mono ?_
            rintro e w2 ⟨rfl, hR2, hk2⟩
            go_wp2_with fail
            obtain ⟨hbm, hbi, hb2, hM', hR', hK, hleft, ht, hd⟩ := HA.out
            go_roundg (gk - 1)
            case measure => omega
            case rel =>
              refine ⟨_, sk r, hbm.same hk2 (by simp; omega), hbi.same hk2 (by simp; omega), ?_, hb2.same hk2 (by simp; omega), hM'.kp hk2 (by simpa using hR'.box.out), hsk ▸ hR2, .inr ⟨rfl, t, HT.out⟩, hK.trans hk2, ?_, ?_⟩
              · rw [left_size] at hleft ⊢; simp only [push_contains, hc, Bool.or_false, Bool.false_or, beq_self_eq_true, cond_true, cond_false, Nat.reduceBEq] at hleft ⊢; omega
              · intro h; rw [push_contains, ht h]; rfl
              · intro h; rw [HT.out] at h; exact absurd (Option.some.inj h) E1.out
end Go.Proofs.YtgdnhlckodhhgaaGreatDoor
