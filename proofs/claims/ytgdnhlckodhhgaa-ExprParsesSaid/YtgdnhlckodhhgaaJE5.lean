/-
  The reference's reader: ~ and $ with what they take; an atom with its marks.
-/
import Derived.Test.YtgdnhlckodhhgaaJG
import Derived.Test.YtgdnhlckodhhgaaJA7
namespace Go.Proofs.Ytgdnhlckodhhgaa
open Go.RowKit
set_option linter.unusedVariables false
set_option linter.unusedSimpArgs false
/-- A node over one, whatever that is: its row is laid, and the node stored into a box. -/
theorem node1x {w : World} {M : Heap} {b9 : Nat} {l : Bs} {x y z : Value} {t : TypeId} {zz xx : Ex (E × Bs)} {t1 : RT} {p nx kd : Int} {sy : ByteArray} {bd : Bool} (op : Int)
    (h9 : Box w M b9 #[x, y, z] t) (hM : Mem w M) (h : RGh M l zz t1.o t1.s t1.A t1.n t1.c p nx kd sy bd) (hx : Nx zz (fun a => some (.ok (.mk op [] [a.1], a.2))) xx) : ∃ M',
    let W := (((w.setCell ⟨b9, 0, none⟩ (.int .i64 op)).setCell ⟨b9, 1, none⟩ (.string ⟨#[]⟩)).setCell ⟨b9, 2, none⟩ (.slice (some ⟨w.heap.size, 0, none⟩) 1 1)).alloc
      (.cells #[.int .i64 t1.o, .string t1.s, .slice t1.A t1.n t1.c] 25)
    Box W M' b9 #[.int .i64 op, .string (bs []), .slice (some ⟨w.heap.size, 0, none⟩) 1 1] t ∧ RGh M' l xx op ⟨#[]⟩ (some ⟨w.heap.size, 0, none⟩) 1 1 p nx kd sy bd ∧ Mem W M' ∧ Ext w.heap.size M M' ∧ Kp [b9] w W := by
  cases zz with
  | ok q =>
    obtain ⟨a, r1⟩ := q
    obtain ⟨h1, h2, h3, h4, h5, h6⟩ := h
    obtain ⟨M', hb, hx', hM', he, hk⟩ := node1 op h9 hM h4
    rw [h1, h2, h3]
    refine ⟨M', hb, ?_, hM', he, hk⟩
    have hx : some (.ok (.mk op [] [a], r1)) = some xx := hx
    injection hx with hx
    subst hx
    exact ⟨rfl, rfl, rfl, hx', h5, h6⟩
  | error q =>
    obtain ⟨h1, h2⟩ := h
    have hx : xx = .error q := hx
    subst hx
    have hk : Kp [b9] w (((w.setCell ⟨b9, 0, none⟩ (.int .i64 op)).setCell ⟨b9, 1, none⟩ (.string ⟨#[]⟩)).setCell ⟨b9, 2, none⟩ (.slice (some ⟨w.heap.size, 0, none⟩) 1 1)) := (Kp.refl [b9] w).set3 (.inl (by simp))
    have hb3 : Box _ M b9 #[.int .i64 op, .string (bs []), .slice (some ⟨w.heap.size, 0, none⟩) 1 1] t := h9.set3 (x' := .int .i64 op) (y' := .string ⟨#[]⟩) (z' := .slice (some ⟨w.heap.size, 0, none⟩) 1 1)
    exact ⟨M, hb3.alloc _, ⟨h1, h2⟩, (hM.kp hk (by simpa using h9.out)).alloc _, Ext.refl _ _, hk.alloc _⟩
def mkB (acc : List E) (r : Bs) : Task := .behind (acc.headD noneE) r
def Mk (m : UInt8) (op : Int) : Prop := (m = 42 ∧ op = 8) ∨ (m = 43 ∧ op = 9) ∨ (m = 63 ∧ op = 10)
theorem mk_mark {m : UInt8} {op : Int} (h : Mk m op) : m ∈ marks ∧ behindOp [m] = some op := by
  rcases h with ⟨rfl, rfl⟩ | ⟨rfl, rfl⟩ | ⟨rfl, rfl⟩ <;> exact ⟨by decide, rfl⟩
theorem behind_more {M' : Heap} {l : Bs} {x : Ex (E × Bs)} {k' : Nat} {t : RT} {p nx kd : Int} {sy : ByteArray} {m : UInt8} {op : Int} (hm : Mk m op) (h : LGh M' l x k' mkB [t] p nx kd sy false) (hk : kd = cod m) :
    ∃ k a A c r', k' = k + 1 ∧ t = rt (a, A, c) ∧ ExV M' a A c ∧ Tok l r' p nx kd sy ∧ tk (sk r') = some [m] ∧ 1 + ((sk r').drop 1).length ≤ l.length ∧ G k (.behind (.mk op [] [a]) ((sk r').drop 1)) = some x := by
  obtain ⟨hm1, hm2⟩ := mk_mark hm
  have hbig := mark_big hm1
  rcases h with ⟨ps, r', e1, e2, e3, e4, e5, e6⟩ | ⟨q, _, _, h3 | h3, _⟩
  · match ps, e1 with
    | [(a, A, c)], e1 =>
      simp only [List.map_cons, List.map_nil, List.cons.injEq, and_true] at e1
      have ht : tk (sk r') = some [m] := by
        cases ht : tk (sk r') with
        | none => have := hk.symm.trans (tok_none e4 ht); omega
        | some u => rw [(kind_mark ht hm1).2 (by rw [← tok_some e4 ht, hk])]
      obtain ⟨k, rfl⟩ : ∃ k, k' = k + 1 := by
        cases k' with
        | zero => simp [mkB, G] at e3
        | succ k => exact ⟨k, rfl⟩
      simp only [mkB, List.map_cons, List.map_nil, List.headD_cons, G] at e3
      rw [token_some ht] at e3
      simp only [lf, hm2] at e3
      have e9 := (tk_len ht).2.1
      have e10 := sk_len r'
      simp only [List.length_cons, List.length_nil] at e6 e9
      exact ⟨k, a, A, c, r', rfl, e1, e2 0 (by simp), e4, ht, by rw [List.length_drop]; omega, e3⟩
  · cases h3
  · have := hk.symm.trans h3; omega
theorem behindOp_none {q t : Bs} (ht : tk q = some t) (h1 : rkind (some t) ≠ 42) (h2 : rkind (some t) ≠ 43) (h3 : rkind (some t) ≠ 63) : behindOp t = none := by
  unfold behindOp
  rw [if_neg (fun e => h1 ((kind_mark ht (k := 42) (by decide)).1 e)), if_neg (fun e => h2 ((kind_mark ht (k := 43) (by decide)).1 e)), if_neg (fun e => h3 ((kind_mark ht (k := 63) (by decide)).1 e))]
theorem behind_over {M' : Heap} {l : Bs} {x : Ex (E × Bs)} {k : Nat} {t : RT} {p nx kd : Int} {sy : ByteArray} {bd : Bool} (h : LGh M' l x k mkB [t] p nx kd sy bd) (hk : bd = true ∨ (kd ≠ 42 ∧ kd ≠ 43 ∧ kd ≠ 63)) :
    RGh M' l x t.o t.s t.A t.n t.c p nx kd sy bd := by
  refine xgh_one (op := 0) ?_
  rcases h with ⟨ps, r', e1, e2, e3, e4, e5, e6⟩ | ⟨q, e1, e2, e3, _⟩
  · have hk := hk.elim (fun h => by rw [e5] at h; cases h) id
    match ps, e1, e3, e2 with
    | [(a, A, c)], e1, e3, e2 =>
      cases k with
      | zero => simp [mkB, G] at e3
      | succ k =>
        simp only [mkB, List.map_cons, List.map_nil, List.headD_cons, G] at e3
        cases ht : tk (sk r') with
        | none =>
          rw [token_none ht] at e3
          simp only [lf, Option.some.injEq] at e3
          exact .inr ⟨sk r', e3.symm, e4.2.1, .inr (tok_none e4 ht)⟩
        | some u =>
          rw [tok_some e4 ht] at hk
          rw [token_some ht] at e3
          simp only [lf, behindOp_none ht hk.1 hk.2.1 hk.2.2, Option.some.injEq] at e3
          exact .inl ⟨[(a, A, c)], sk r', e1, e2, e3.symm, tok_sk e4, e5⟩
  · exact .inr ⟨q, e1, e2, e3⟩
/-- What begins no ~ and no $: an atom, and what stands behind it. -/
theorem thing_atom {k : Nat} {l r : Bs} {x : Ex (E × Bs)} {p nx kd : Int} {sy : ByteArray} (hT : Tok l r p nx kd sy) (h1 : kd ≠ 126) (h2 : kd ≠ 36) (hx : G (k + 1) (.lv 7 r) = some x) :
    ∃ k' z, k' ≤ k + 1 ∧ G k' (.lv 8 r) = some z ∧ Nx z (fun a => G k (mkB [a.1] a.2)) x := by
  rw [G7] at hx
  cases ht : tk (sk r) with
  | none =>
    rw [token_none ht] at hx
    simp only [lf, Option.some.injEq] at hx
    refine ⟨k + 1, .error (sk r), Nat.le_refl _, ?_, hx.symm⟩
    rw [G8 k 0, token_none ht]
    rfl
  | some t =>
    rw [tok_some hT ht] at h1 h2
    rw [token_some ht] at hx
    simp only [lf] at hx
    rw [if_neg (fun e => h1 ((kind_mark ht (k := 126) (by decide)).1 e)), if_neg (fun e => h2 ((kind_mark ht (k := 36) (by decide)).1 e))] at hx
    obtain ⟨z, h3, h4⟩ := bx_any hx
    refine ⟨k, z, by omega, ?_, h4⟩
    have : G k (.lv 8 (sk r)) = G k (.lv 8 r) := by
      cases k with
      | zero => rfl
      | succ k => rw [G8 k 0, G8 k 0]; unfold token; rw [sk_sk]
    rw [← this]; exact h3
theorem thing_sign {k : Nat} {l r : Bs} {x : Ex (E × Bs)} {p nx kd : Int} {sy : ByteArray} {m : UInt8} {op : Int} (hm : (m = 126 ∧ op = 11) ∨ (m = 36 ∧ op = 12)) (hT : Tok l r p nx kd sy) (hk : kd = cod m) (hx : G (k + 1) (.lv 7 r) = some x) :
    ∃ z, tk (sk r) = some [m] ∧ G k (.lv 7 ((sk r).drop [m].length)) = some z ∧ Nx z (fun a => some (.ok (.mk op [] [a.1], a.2))) x := by
  have hm1 : m ∈ marks := by rcases hm with ⟨rfl, _⟩ | ⟨rfl, _⟩ <;> decide
  have hbig := mark_big hm1
  have ht : tk (sk r) = some [m] := by
    cases ht : tk (sk r) with
    | none => have := hk.symm.trans (tok_none hT ht); omega
    | some u => rw [(kind_mark ht hm1).2 (by rw [← tok_some hT ht, hk])]
  rw [G7, token_some ht] at hx
  simp only [lf] at hx
  rcases hm with ⟨rfl, rfl⟩ | ⟨rfl, rfl⟩
  · rw [if_pos rfl] at hx
    obtain ⟨z, h3, h4⟩ := bx_any hx
    exact ⟨z, ht, h3, h4⟩
  · rw [if_neg (by decide), if_pos rfl] at hx
    obtain ⟨z, h3, h4⟩ := bx_any hx
    exact ⟨z, ht, h3, h4⟩
/-- As RSpec, where no ~ and no $ is at hand. -/
def ASpec (f : FuncId) (k : Nat) : Prop := ∀ (g : Nat) (l r : Bs) (w : World) (M : Heap) (x : Ex (E × Bs)) (p nx kd : Int) (sy : ByteArray), Tok l r p nx kd sy → kd ≠ 126 → kd ≠ 36 → PB w M g l p nx kd sy false → Mem w M → l.length ≤ 6000 → G k (.lv 8 r) = some x →
  Calls Try.prog f #[.pointer (some ⟨g, 0, none⟩)] w (REnd w M g l x)
set_option maxRecDepth 100000 in
set_option maxHeartbeats 4000000 in
theorem rthing_spec {k : Nat} (hS : ∀ k', k' ≤ k → RSpec 96 [] 7 k') (hA : ∀ k', k' ≤ k + 1 → ASpec 106 k') : RSpec 96 [] 7 (k + 1) := by
  intro g l r w M x p nx kd sy hT hB hM hl hx
  have hgw : g < w.heap.size := Box.lt hB
  have HT := Hid.mk hT
  have HX := Hid.mk hx
  have HPB := Hid.mk hB
  obtain ⟨⟨c0, c1, c2, c3, c4, c5⟩, f1, f2, f3, f4, f5⟩ := PB.cells hB
  clear c0 c1 c2 c4 f1 f2 f3 f4 f5 hx hT hB
  show Calls Try.prog 96 #[.pointer (some ⟨g, 0, none⟩)] w (REnd w M g l x)
  by_cases h126 : kd = 126
  · have hb1 : (kd == 126) = true := by rw [h126]; rfl
    obtain ⟨z, ht, h3, h4⟩ := thing_sign (m := 126) (op := 11) (by simp) HT.out h126 HX.out
    have Ht := Hid.mk ht
    have H3 := Hid.mk h3
    have H4 := Hid.mk h4
    have TO : Hid (∀ w, Calls Try.prog 74 #[.int .i64 kd] w fun e w' => e = .returned (.int .i64 11) ∧ w = w') := Hid.mk (fun w => opOf2_calls kd 11 (by rw [h126]; decide) w)
    clear ht h3 h4 h126 HX
    go_enter Try.func96, Try.ntmps96
    go_wp2_with (go_at_call 74; refine (TO.out _).mono ?_; rintro e w' ⟨rfl, rfl⟩)
    refine (adv_calls hl HT.out Ht.out (Box.alloc HPB.out _)).mono ?_
    rintro e w2 ⟨p4, nx4, kd4, sy4, rfl, hk2, hB2, hT2⟩
    have HT2 := Hid.mk hT2
    have hM2 := (hM.alloc (.cells #[.int .i64 0, .string ⟨#[]⟩, .slice none 0 0] 25)).kp hk2 (by simpa using hB2.out)
    have hb2 := (Box.new hM #[.int .i64 0, .string ⟨#[]⟩, .slice none 0 0] 25).same hk2 (by simp; omega)
    clear hT2
    go_wp2_with fail
    refine (hS k (Nat.le_refl _) g l _ _ M z p4 nx4 kd4 sy4 HT2.out hB2 hM2 hl H3.out).mono ?_
    rintro e w3 ⟨o3, s3, A3, n3, c3', p3, nx3, kd3, sy3, bd3, M3, rfl, hk3, hB3, hM3, he3, hG3⟩
    have hb3 := hb2.kp hk3 (by simp; omega) he3 hb2.lt
    have HA := Hid.mk (And.intro hk2 (And.intro hk3 (And.intro hB3 (And.intro hM3 (And.intro he3 (And.intro hG3 hb3))))))
    have hlt3 := hb3.lt
    obtain ⟨⟨p0, p1, p2'⟩, f0', f1', f2'⟩ := hb3.three
    clear hk2 hk3 hB2 hB3 hM2 hM3 he3 hG3 hb2 hb3 c3 c5
    go_wp2_with fail
    obtain ⟨hk2, hk3, hB3, hM3, he3, hG3, hb3⟩ := HA.out
    obtain ⟨M4, hb4, hx4, hM4, he4, hk4⟩ := node1x (t1 := ⟨o3, s3, A3, n3, c3'⟩) 11 hb3 hM3 hG3 H4.out
    obtain ⟨⟨r0, r1, r2⟩, _, _, _⟩ := hb4.three
    refine bodyPost_ret (v := .agg #[.int .i64 11, .string ⟨#[]⟩, .slice (some ⟨w3.heap.size, 0, none⟩) 1 1]) (by simp [results, Try.results96, go_sem, r0, r1, r2, bs]) rfl ?_
    have hK := (((Kp.refl [g] w).alloc (.cells #[.int .i64 0, .string ⟨#[]⟩, .slice none 0 0] 25)).trans hk2).trans hk3
    exact ⟨_, _, _, _, _, p3, nx3, kd3, sy3, bd3, M4, rfl, hK.inner hk4 (by simp), ⟨(Box.same hB3 hk4 (by simp; omega)).blk, Ext.no he4 hB3.out (Box.lt hB3)⟩, hM4, (he3.low (by have := hk2.size; simp at this; omega)).trans (he4.low hK.size) (Nat.le_refl _), hx4⟩
  by_cases h36 : kd = 36
  · have hb1 : (kd == 36) = true := by rw [h36]; rfl
    have hb0 : (kd == 126) = false := by simpa using h126
    obtain ⟨z, ht, h3, h4⟩ := thing_sign (m := 36) (op := 12) (by simp) HT.out h36 HX.out
    have Ht := Hid.mk ht
    have H3 := Hid.mk h3
    have H4 := Hid.mk h4
    have TO : Hid (∀ w, Calls Try.prog 74 #[.int .i64 kd] w fun e w' => e = .returned (.int .i64 12) ∧ w = w') := Hid.mk (fun w => opOf2_calls kd 12 (by rw [h36]; decide) w)
    clear ht h3 h4 h36 HX
    go_enter Try.func96, Try.ntmps96
    go_wp2_with (go_at_call 74; refine (TO.out _).mono ?_; rintro e w' ⟨rfl, rfl⟩)
    refine (adv_calls hl HT.out Ht.out (Box.alloc HPB.out _)).mono ?_
    rintro e w2 ⟨p4, nx4, kd4, sy4, rfl, hk2, hB2, hT2⟩
    have HT2 := Hid.mk hT2
    have hM2 := (hM.alloc (.cells #[.int .i64 0, .string ⟨#[]⟩, .slice none 0 0] 25)).kp hk2 (by simpa using hB2.out)
    have hb2 := (Box.new hM #[.int .i64 0, .string ⟨#[]⟩, .slice none 0 0] 25).same hk2 (by simp; omega)
    clear hT2
    go_wp2_with fail
    refine (hS k (Nat.le_refl _) g l _ _ M z p4 nx4 kd4 sy4 HT2.out hB2 hM2 hl H3.out).mono ?_
    rintro e w3 ⟨o3, s3, A3, n3, c3', p3, nx3, kd3, sy3, bd3, M3, rfl, hk3, hB3, hM3, he3, hG3⟩
    have hb3 := hb2.kp hk3 (by simp; omega) he3 hb2.lt
    have HA := Hid.mk (And.intro hk2 (And.intro hk3 (And.intro hB3 (And.intro hM3 (And.intro he3 (And.intro hG3 hb3))))))
    have hlt3 := hb3.lt
    obtain ⟨⟨p0, p1, p2'⟩, f0', f1', f2'⟩ := hb3.three
    clear hk2 hk3 hB2 hB3 hM2 hM3 he3 hG3 hb2 hb3 c3 c5
    go_wp2_with fail
    obtain ⟨hk2, hk3, hB3, hM3, he3, hG3, hb3⟩ := HA.out
    obtain ⟨M4, hb4, hx4, hM4, he4, hk4⟩ := node1x (t1 := ⟨o3, s3, A3, n3, c3'⟩) 12 hb3 hM3 hG3 H4.out
    obtain ⟨⟨r0, r1, r2⟩, _, _, _⟩ := hb4.three
    refine bodyPost_ret (v := .agg #[.int .i64 12, .string ⟨#[]⟩, .slice (some ⟨w3.heap.size, 0, none⟩) 1 1]) (by simp [results, Try.results96, go_sem, r0, r1, r2, bs]) rfl ?_
    have hK := (((Kp.refl [g] w).alloc (.cells #[.int .i64 0, .string ⟨#[]⟩, .slice none 0 0] 25)).trans hk2).trans hk3
    exact ⟨_, _, _, _, _, p3, nx3, kd3, sy3, bd3, M4, rfl, hK.inner hk4 (by simp), ⟨(Box.same hB3 hk4 (by simp; omega)).blk, Ext.no he4 hB3.out (Box.lt hB3)⟩, hM4, (he3.low (by have := hk2.size; simp at this; omega)).trans (he4.low hK.size) (Nat.le_refl _), hx4⟩
  have hb1 : (kd == 126) = false := by simpa using h126
  have hb2 : (kd == 36) = false := by simpa using h36
  obtain ⟨k2, z, hk2, h3, h4⟩ := thing_atom HT.out h126 h36 HX.out
  have hf := Hid.mk (fun a r1 (e : z = .ok (a, r1)) => lv_less h3 e)
  have H3 := Hid.mk h3
  have H4 := Hid.mk h4
  have HN := Hid.mk (And.intro h126 h36)
  clear h3 h4 h126 h36 HX
  go_enter Try.func96, Try.ntmps96
  go_wp2_with fail
  refine (hA k2 hk2 g l r _ M z p nx kd sy HT.out HN.out.1 HN.out.2 (Box.alloc HPB.out _) (hM.alloc _) hl H3.out).mono ?_
  rintro e w1 ⟨o1, s1, A1, n1, c1, p1, nx1, kd1, sy1, bd1, M1, rfl, hk1, hB1, hM1, he1, hG1⟩
  have hsz : w.heap.size < w1.heap.size := by have := hk1.size; simp at this; omega
  have hb8 : Box w1 M1 w.heap.size #[.int .i64 0, .string ⟨#[]⟩, .slice none 0 0] 25 := (Box.new hM _ _).kp hk1 (by simp; omega) he1 (by simp)
  clear c3 c5
  go_wp2_with fail
  go_loopg [] k (fun kk wr => ∃ t1 M' p nx kd sy bd, kk ≤ k ∧ Box wr M' w1.heap.size #[.int .i64 t1.o, .string t1.s, .slice t1.A t1.n t1.c] 25 ∧ Box wr M' w.heap.size #[.int .i64 0, .string ⟨#[]⟩, .slice none 0 0] 25 ∧ Mem wr M' ∧ Ext w.heap.size M M' ∧ PB wr M' g l p nx kd sy bd ∧ Kp [g] w wr ∧ Hid (LGh M' l x kk mkB [t1] p nx kd sy bd))
  case atStart =>
    refine ⟨⟨o1, s1, A1, n1, c1⟩, M1, p1, nx1, kd1, sy1, bd1, Nat.le_refl _, Box.new hM1 _ _, hb8.alloc _, hM1.alloc _, he1.low (by simp), Box.alloc hB1 _, (((Kp.refl _ _).alloc _).trans hk1).alloc _, Hid.mk ?_⟩
    exact lgh_first HT.out.1 hf.out hG1 H4.out
  case round =>
    obtain ⟨t1, M', p2, nx2, kd2, sy2, bd2, hkk, hb9, hb8', hM', he', hB', hK, hG⟩ := hrel
    clear hb8 hM1 he1 hB1 hk1 hG1 hM HPB
    have hb8 := hb8'
    have hB := hB'
    clear hb8' hB'
    obtain ⟨⟨c0, c1, c2, c3, c4, c5⟩, f1, f2, f3, f4, f5⟩ := PB.cells hB
    clear c0 c1 c2 c4 f1 f2 f3 f4 f5
    obtain ⟨⟨q0, q1, q2⟩, g0', g1', g2'⟩ := hb9.three
    obtain ⟨⟨p0, p1, p2'⟩, f0', f1', f2'⟩ := hb8.three
    have hlt8 := hb8.lt
    have hlt9 := hb9.lt
    have HA := Hid.mk (And.intro hb9 (And.intro hb8 (And.intro hM' (And.intro he' (And.intro hB hK)))))
    clear hb9 hb8 hM' he' hB hK
    cases bd2 with
    | true =>
      have X := Hid.mk (behind_over hG.out (.inl rfl))
      clear hG
      go_wp2_with fail
      obtain ⟨hb9, hb8, hM', he', hB, hK⟩ := HA.out
      have hk3 := Kp.set3 (b := w.heap.size) (x' := .int .i64 t1.o) (y' := .string t1.s) (z' := .slice t1.A t1.n t1.c) (Kp.refl [w.heap.size] wr) (.inl (by simp))
      obtain ⟨⟨r0, r1, r2⟩, _, _, _⟩ := (hb8.set3 (x' := .int .i64 t1.o) (y' := .string t1.s) (z' := .slice t1.A t1.n t1.c)).three
      refine bodyPost_ret (v := .agg #[.int .i64 t1.o, .string t1.s, .slice t1.A t1.n t1.c]) (by simp [results, Try.results96, go_sem, r0, r1, r2]) rfl ?_
      exact ⟨_, _, _, _, _, p2, nx2, kd2, sy2, _, M', rfl, hK.set3 (.inr (Nat.le_refl _)), Box.same hB hk3 (by simp; omega), hM'.kp hk3 (by simpa using hb8.out), he', X.out⟩
    | false =>
      by_cases h42 : kd2 = 42
      · have b42 : (kd2 == 42) = true := by rw [h42]; rfl
        obtain ⟨kk, a1, A2, c2, r', rfl, rfl, hxa, hT', ht, h7, h8⟩ := behind_more (m := 42) (op := 8) (by simp [Mk]) hG.out h42
        have TO : Hid (∀ w, Calls Try.prog 74 #[.int .i64 kd2] w fun e w' => e = .returned (.int .i64 8) ∧ w = w') := Hid.mk (fun w => opOf2_calls kd2 8 (by rw [h42]; decide) w)
        have HXA := Hid.mk hxa
        have HT' := Hid.mk hT'
        have Ht := Hid.mk ht
        have H8 := Hid.mk h8
        clear hxa hT' ht h8 hG h42
        go_upto_region 7 with fail
        go_cut [] from 57 to 64 (fun wy => ∃ M4 gb, PB wy M4 g l p2 nx2 kd2 sy2 false ∧ Box wy M4 w1.heap.size #[.int .i64 8, .string ⟨#[]⟩, .slice (some ⟨gb, 0, none⟩) 1 1] 25 ∧ Box wy M4 w.heap.size #[.int .i64 0, .string ⟨#[]⟩, .slice none 0 0] 25 ∧ Mem wy M4 ∧ Ext w.heap.size M M4 ∧ Kp [g] w wy ∧ ExV M4 (.mk 8 [] [a1]) (some ⟨gb, 0, none⟩) 1)
        case first =>
          have hn3 : ∀ o, (wr.alloc o).cell? ⟨g, 3, none⟩ = some (.int .i64 kd2) := fun o => Box.cell (Box.alloc HA.out.2.2.2.2.1 o) 3
          go_region_law (first | (go_simp; go_at_call 74; refine (TO.out _).mono ?_; rintro e w' ⟨rfl, rfl⟩))
          all_goals
            go_wp2_with fail
            go_meet
            case rel =>
              obtain ⟨hb9, hb8, hM', he', hB, hK⟩ := HA.out
              obtain ⟨M4, hb4, hx4, hM4, he4, hk4⟩ := node1 8 hb9 hM' HXA.out
              exact ⟨M4, wr.heap.size, Box.drew (Box.kp hB hk4 (by simp; omega) he4 (Box.lt hB)), Box.drew hb4, Box.drew (hb8.kp hk4 (by simp; omega) he4 hlt8), hM4.drew, he'.trans (he4.low hK.size) (Nat.le_refl _), (hK.inner hk4 (by simp; omega)).drew, hx4⟩
        case rest =>
          obtain ⟨M4, gb, hB4, hb94, hb84, hM4, he4, hK4, hxn⟩ := hcut
          clear c3 c5 q0 q1 q2 g0' g1' g2' p0 p1 p2' f0' f1' f2'
          go_wp2_with fail
          refine (adv_calls hl HT'.out Ht.out hB4).mono ?_
          rintro e w5 ⟨p5, nx5, kd5, sy5, rfl, hk5, hB5, hT5⟩
          go_wp2_with fail
          go_roundg kk
          case measure => omega
          case rel =>
            refine ⟨⟨8, ⟨#[]⟩, some ⟨gb, 0, none⟩, 1, 1⟩, M4, p5, nx5, kd5, sy5, false, by omega, hb94.same hk5 (by simp; omega), hb84.same hk5 (by simp; omega), hM4.kp hk5 (by simpa using hB4.out), he4, hB5, hK4.trans hk5, Hid.mk (.inl ⟨[(.mk 8 [] [a1], some ⟨gb, 0, none⟩, 1)], (sk r').drop 1, rfl, AllV.one hxn, H8.out, hT5, rfl, by simp at h7 ⊢; omega⟩)⟩
      · have b42 : (kd2 == 42) = false := by simpa using h42
        by_cases h43 : kd2 = 43
        · have b43 : (kd2 == 43) = true := by rw [h43]; rfl
          obtain ⟨kk, a1, A2, c2, r', rfl, rfl, hxa, hT', ht, h7, h8⟩ := behind_more (m := 43) (op := 9) (by simp [Mk]) hG.out h43
          have TO : Hid (∀ w, Calls Try.prog 74 #[.int .i64 kd2] w fun e w' => e = .returned (.int .i64 9) ∧ w = w') := Hid.mk (fun w => opOf2_calls kd2 9 (by rw [h43]; decide) w)
          have HXA := Hid.mk hxa
          have HT' := Hid.mk hT'
          have Ht := Hid.mk ht
          have H8 := Hid.mk h8
          clear hxa hT' ht h8 hG h43
          go_upto_region 7 with fail
          go_cut [] from 57 to 64 (fun wy => ∃ M4 gb, PB wy M4 g l p2 nx2 kd2 sy2 false ∧ Box wy M4 w1.heap.size #[.int .i64 9, .string ⟨#[]⟩, .slice (some ⟨gb, 0, none⟩) 1 1] 25 ∧ Box wy M4 w.heap.size #[.int .i64 0, .string ⟨#[]⟩, .slice none 0 0] 25 ∧ Mem wy M4 ∧ Ext w.heap.size M M4 ∧ Kp [g] w wy ∧ ExV M4 (.mk 9 [] [a1]) (some ⟨gb, 0, none⟩) 1)
          case first =>
            have hn3 : ∀ o, (wr.alloc o).cell? ⟨g, 3, none⟩ = some (.int .i64 kd2) := fun o => Box.cell (Box.alloc HA.out.2.2.2.2.1 o) 3
            go_region_law (first | (go_simp; go_at_call 74; refine (TO.out _).mono ?_; rintro e w' ⟨rfl, rfl⟩))
            all_goals
              go_wp2_with fail
              go_meet
              case rel =>
                obtain ⟨hb9, hb8, hM', he', hB, hK⟩ := HA.out
                obtain ⟨M4, hb4, hx4, hM4, he4, hk4⟩ := node1 9 hb9 hM' HXA.out
                exact ⟨M4, wr.heap.size, Box.drew (Box.kp hB hk4 (by simp; omega) he4 (Box.lt hB)), Box.drew hb4, Box.drew (hb8.kp hk4 (by simp; omega) he4 hlt8), hM4.drew, he'.trans (he4.low hK.size) (Nat.le_refl _), (hK.inner hk4 (by simp; omega)).drew, hx4⟩
          case rest =>
            obtain ⟨M4, gb, hB4, hb94, hb84, hM4, he4, hK4, hxn⟩ := hcut
            clear c3 c5 q0 q1 q2 g0' g1' g2' p0 p1 p2' f0' f1' f2'
            go_wp2_with fail
            refine (adv_calls hl HT'.out Ht.out hB4).mono ?_
            rintro e w5 ⟨p5, nx5, kd5, sy5, rfl, hk5, hB5, hT5⟩
            go_wp2_with fail
            go_roundg kk
            case measure => omega
            case rel =>
              refine ⟨⟨9, ⟨#[]⟩, some ⟨gb, 0, none⟩, 1, 1⟩, M4, p5, nx5, kd5, sy5, false, by omega, hb94.same hk5 (by simp; omega), hb84.same hk5 (by simp; omega), hM4.kp hk5 (by simpa using hB4.out), he4, hB5, hK4.trans hk5, Hid.mk (.inl ⟨[(.mk 9 [] [a1], some ⟨gb, 0, none⟩, 1)], (sk r').drop 1, rfl, AllV.one hxn, H8.out, hT5, rfl, by simp at h7 ⊢; omega⟩)⟩
        · have b43 : (kd2 == 43) = false := by simpa using h43
          by_cases h63 : kd2 = 63
          · have b63 : (kd2 == 63) = true := by rw [h63]; rfl
            obtain ⟨kk, a1, A2, c2, r', rfl, rfl, hxa, hT', ht, h7, h8⟩ := behind_more (m := 63) (op := 10) (by simp [Mk]) hG.out h63
            have TO : Hid (∀ w, Calls Try.prog 74 #[.int .i64 kd2] w fun e w' => e = .returned (.int .i64 10) ∧ w = w') := Hid.mk (fun w => opOf2_calls kd2 10 (by rw [h63]; decide) w)
            have HXA := Hid.mk hxa
            have HT' := Hid.mk hT'
            have Ht := Hid.mk ht
            have H8 := Hid.mk h8
            clear hxa hT' ht h8 hG h63
            go_upto_region 7 with fail
            go_cut [] from 57 to 64 (fun wy => ∃ M4 gb, PB wy M4 g l p2 nx2 kd2 sy2 false ∧ Box wy M4 w1.heap.size #[.int .i64 10, .string ⟨#[]⟩, .slice (some ⟨gb, 0, none⟩) 1 1] 25 ∧ Box wy M4 w.heap.size #[.int .i64 0, .string ⟨#[]⟩, .slice none 0 0] 25 ∧ Mem wy M4 ∧ Ext w.heap.size M M4 ∧ Kp [g] w wy ∧ ExV M4 (.mk 10 [] [a1]) (some ⟨gb, 0, none⟩) 1)
            case first =>
              have hn3 : ∀ o, (wr.alloc o).cell? ⟨g, 3, none⟩ = some (.int .i64 kd2) := fun o => Box.cell (Box.alloc HA.out.2.2.2.2.1 o) 3
              go_region_law (first | (go_simp; go_at_call 74; refine (TO.out _).mono ?_; rintro e w' ⟨rfl, rfl⟩))
              all_goals
                go_wp2_with fail
                go_meet
                case rel =>
                  obtain ⟨hb9, hb8, hM', he', hB, hK⟩ := HA.out
                  obtain ⟨M4, hb4, hx4, hM4, he4, hk4⟩ := node1 10 hb9 hM' HXA.out
                  exact ⟨M4, wr.heap.size, Box.drew (Box.kp hB hk4 (by simp; omega) he4 (Box.lt hB)), Box.drew hb4, Box.drew (hb8.kp hk4 (by simp; omega) he4 hlt8), hM4.drew, he'.trans (he4.low hK.size) (Nat.le_refl _), (hK.inner hk4 (by simp; omega)).drew, hx4⟩
            case rest =>
              obtain ⟨M4, gb, hB4, hb94, hb84, hM4, he4, hK4, hxn⟩ := hcut
              clear c3 c5 q0 q1 q2 g0' g1' g2' p0 p1 p2' f0' f1' f2'
              go_wp2_with fail
              refine (adv_calls hl HT'.out Ht.out hB4).mono ?_
              rintro e w5 ⟨p5, nx5, kd5, sy5, rfl, hk5, hB5, hT5⟩
              go_wp2_with fail
              go_roundg kk
              case measure => omega
              case rel =>
                refine ⟨⟨10, ⟨#[]⟩, some ⟨gb, 0, none⟩, 1, 1⟩, M4, p5, nx5, kd5, sy5, false, by omega, hb94.same hk5 (by simp; omega), hb84.same hk5 (by simp; omega), hM4.kp hk5 (by simpa using hB4.out), he4, hB5, hK4.trans hk5, Hid.mk (.inl ⟨[(.mk 10 [] [a1], some ⟨gb, 0, none⟩, 1)], (sk r').drop 1, rfl, AllV.one hxn, H8.out, hT5, rfl, by simp at h7 ⊢; omega⟩)⟩
          · have b63 : (kd2 == 63) = false := by simpa using h63
            have X := Hid.mk (behind_over hG.out (.inr ⟨h42, h43, h63⟩))
            clear hG h42 h43 h63
            go_wp2_with fail
            obtain ⟨hb9, hb8, hM', he', hB, hK⟩ := HA.out
            have hk3 := Kp.set3 (b := w.heap.size) (x' := .int .i64 t1.o) (y' := .string t1.s) (z' := .slice t1.A t1.n t1.c) (Kp.refl [w.heap.size] wr) (.inl (by simp))
            obtain ⟨⟨r0, r1, r2⟩, _, _, _⟩ := (hb8.set3 (x' := .int .i64 t1.o) (y' := .string t1.s) (z' := .slice t1.A t1.n t1.c)).three
            refine bodyPost_ret (v := .agg #[.int .i64 t1.o, .string t1.s, .slice t1.A t1.n t1.c]) (by simp [results, Try.results96, go_sem, r0, r1, r2]) rfl ?_
            exact ⟨_, _, _, _, _, p2, nx2, kd2, sy2, _, M', rfl, hK.set3 (.inr (Nat.le_refl _)), Box.same hB hk3 (by simp; omega), hM'.kp hk3 (by simpa using hb8.out), he', X.out⟩
end Go.Proofs.Ytgdnhlckodhhgaa
