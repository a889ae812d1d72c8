/-
  The reference's reader: atoms.
-/
import Derived.Test.YtgdnhlckodhhgaaJE5
namespace Go.Proofs.Ytgdnhlckodhhgaa
open Go.RowKit
set_option linter.unusedVariables false
set_option linter.unusedSimpArgs false
theorem atom_leaf {k : Nat} {r t : Bs} {e : E} {x : Ex (E × Bs)} (ht : tk (sk r) = some t) (hb : begT t = true) (hl : leaf t = some e) (hx : G (k + 1) (.lv 8 r) = some x) : x = .ok (e, (sk r).drop t.length) := by
  rw [G8 k 0, token_some ht] at hx
  simp only [lf, hb, hl, Bool.true_eq_false, if_false, Option.some.injEq] at hx
  exact hx.symm
theorem atom_bad {k : Nat} {l r : Bs} {x : Ex (E × Bs)} {p nx kd : Int} {sy : ByteArray} (hT : Tok l r p nx kd sy) (hk : atomI kd = false) (hx : G (k + 1) (.lv 8 r) = some x) : x = .error (sk r) := by
  rw [G8 k 0] at hx
  cases ht : tk (sk r) with
  | none =>
    rw [token_none ht] at hx
    simp only [lf, Option.some.injEq] at hx
    exact hx.symm
  | some t =>
    have hb : begT t = false := by rw [begT_kind ht, ← tok_some hT ht]; exact hk
    rw [token_some ht] at hx
    simp only [lf, hb, if_true, Option.some.injEq] at hx
    exact hx.symm
def brF : E × Bs → Option (Ex (E × Bs)) := fun (a, r2) => lf (takeT [93] r2) fun (b, r3) => if b = false then some (.error r3) else some (.ok (a, r3))
theorem atom_brack {k : Nat} {l r : Bs} {x : Ex (E × Bs)} {p nx kd : Int} {sy : ByteArray} (hT : Tok l r p nx kd sy) (hk : kd = 91) (hx : G (k + 1) (.lv 8 r) = some x) : ∃ z, tk (sk r) = some [91] ∧ G k (.lv 0 ((sk r).drop [(91 : UInt8)].length)) = some z ∧ Nx z brF x := by
  have ht : tk (sk r) = some [91] := by
    cases ht : tk (sk r) with
    | none => have := hk.symm.trans (tok_none hT ht); omega
    | some u => rw [(kind_mark ht (k := 91) (by decide)).2 (by rw [← tok_some hT ht, hk]; rfl)]
  rw [G8 k 0, token_some ht] at hx
  simp only [lf] at hx
  rw [if_neg (by decide), show leaf [91] = none from rfl] at hx
  obtain ⟨z, h1, h2⟩ := bx_any hx
  exact ⟨z, ht, h1, h2⟩
theorem brack_bad {M : Heap} {l : Bs} {z x : Ex (E × Bs)} {o : Int} {sb : ByteArray} {A : Option Addr} {n c : Nat} {p nx kd : Int} {sy : ByteArray} {bd : Bool} (h : RGh M l z o sb A n c p nx kd sy bd) (hx : Nx z brF x) (hk : bd = true ∨ kd ≠ 93) : ∃ q, x = .error q ∧ p = (at_ l q : Nat) := by
  cases z with
  | error q => exact ⟨q, hx, h.1⟩
  | ok y =>
    obtain ⟨a, r2⟩ := y
    obtain ⟨_, _, _, _, hT, hb⟩ := h
    have hk := hk.elim (fun h => by rw [hb] at h; cases h) id
    have hx : brF (a, r2) = some x := hx
    simp only [brF] at hx
    cases ht : tk (sk r2) with
    | none =>
      rw [takeT_no ht] at hx
      simp only [lf, Option.some.injEq] at hx
      exact ⟨_, hx.symm, hT.2.1⟩
    | some u =>
      rw [takeT_eq ht, if_neg (fun e => hk (by rw [tok_some hT ht, (kind_mark ht (k := 93) (by decide)).1 e]; rfl))] at hx
      simp only [lf, if_true, Option.some.injEq] at hx
      exact ⟨_, hx.symm, hT.2.1⟩
theorem brack_ok {M : Heap} {l : Bs} {z x : Ex (E × Bs)} {o : Int} {sb : ByteArray} {A : Option Addr} {n c : Nat} {p nx kd : Int} {sy : ByteArray} (h : RGh M l z o sb A n c p nx kd sy false) (hx : Nx z brF x) (hk : kd = 93) :
    ∃ a r2, o = a.op ∧ sb = bs a.s ∧ n = a.l.length ∧ ExV M a A c ∧ Tok l r2 p nx kd sy ∧ tk (sk r2) = some [93] ∧ x = .ok (a, (sk r2).drop [(93 : UInt8)].length) := by
  cases z with
  | error q =>
    rcases h.2 with h | h
    · cases h
    · rw [hk] at h; exact absurd h (by omega)
  | ok y =>
    obtain ⟨a, r2⟩ := y
    obtain ⟨h1, h2, h3, h4, hT, _⟩ := h
    have hx : brF (a, r2) = some x := hx
    simp only [brF] at hx
    have ht : tk (sk r2) = some [93] := by
      cases ht : tk (sk r2) with
      | none => have := hk.symm.trans (tok_none hT ht); omega
      | some u => rw [(kind_mark ht (k := 93) (by decide)).2 (by rw [← tok_some hT ht, hk]; rfl)]
    rw [takeT_eq ht, if_pos rfl] at hx
    simp only [lf, Bool.true_eq_false, if_false, Option.some.injEq] at hx
    exact ⟨a, r2, h1, h2, h3, h4, hT, ht, hx.symm⟩
set_option maxRecDepth 100000 in
set_option maxHeartbeats 8000000 in
theorem ratom_spec {k : Nat} (hS : ∀ k', k' ≤ k → RSpec 23 [] 0 k') : ASpec 106 (k + 1) := by
  intro g l r w M x p nx kd sy hT hn1 hn2 hB hM hl hx
  have hgw : g < w.heap.size := Box.lt hB
  have HT := Hid.mk hT
  have HPB := Hid.mk hB
  have HX := Hid.mk hx
  have HN := Hid.mk (And.intro hn1 hn2)
  obtain ⟨⟨c0, c1, c2, c3, c4, c5⟩, f1, f2, f3, f4, f5⟩ := PB.cells hB
  clear c0 c1 c2 f1 f2 f3 f4 hT hB hx hn1 hn2
  by_cases hK : kd = 1
  · have b1 : (kd == 1) = true := by rw [hK]; rfl
    obtain ⟨t, ht, hr⟩ : ∃ t, tk (sk r) = some t ∧ rkind (some t) = 1 := by
      cases ht : tk (sk r) with
      | none => have := hK.symm.trans (tok_none HT.out ht); omega
      | some t => exact ⟨t, rfl, by rw [← tok_some HT.out ht, hK]⟩
    obtain ⟨hlf, hbt⟩ := kind_sym ht hr
    have Hx := Hid.mk (atom_leaf ht hbt hlf HX.out)
    have Ht := Hid.mk ht
    have hsy : sy = bs (symOf t) := (HT.out.2.2.2 t ht).2 hr
    subst hsy
    clear ht hr hlf hbt hK
    go_enter Try.func106, Try.ntmps106
    go_wp2_with fail
    refine (adv_calls hl HT.out Ht.out (Box.alloc (Box.alloc HPB.out _) _)).mono ?_
    rintro e w5 ⟨p5, nx5, kd5, sy5, rfl, hk5, hB5, hT5⟩
    obtain ⟨hx0, hx1⟩ := two_boxes hM #[.int .i64 0, .string ⟨#[]⟩, .slice none 0 0] #[.int .i64 0, .string (bs (symOf t)), .slice none 0 0] 25 25
    have hb0 := hx0.same hk5 (by simp; omega)
    have hb1 := hx1.same hk5 (by simp; omega)
    obtain ⟨⟨q0, q1, q2⟩, _, _, _⟩ := hb1.three
    obtain ⟨⟨p0, p1, p2⟩, f0', f1', f2'⟩ := hb0.three
    have HA := Hid.mk (And.intro hk5 (And.intro hB5 (And.intro hT5 (And.intro hb0 hb1))))
    have hM5 := Hid.mk (((hM.alloc (.cells #[.int .i64 0, .string ⟨#[]⟩, .slice none 0 0] 25)).alloc (.cells #[.int .i64 0, .string (bs (symOf t)), .slice none 0 0] 25)).kp hk5 (by simpa using hB5.out))
    clear hk5 hB5 hT5 hb0 hb1 hx0 hx1 c3 c4 c5 f5
    go_wp2_with fail
    obtain ⟨hk5, hB5, hT5, hb0, hb1⟩ := HA.out
    have hk3 := Kp.set3 (b := w.heap.size) (x' := .int .i64 0) (y' := .string (bs (symOf t))) (z' := .slice none 0 0) (Kp.refl [w.heap.size] w5) (.inl (by simp))
    obtain ⟨⟨r0, r1, r2⟩, _, _, _⟩ := (hb0.set3 (x' := .int .i64 0) (y' := .string (bs (symOf t))) (z' := .slice none 0 0)).three
    refine bodyPost_ret (v := .agg #[.int .i64 0, .string (bs (symOf t)), .slice none 0 0]) (by simp [results, Try.results106, go_sem, r0, r1, r2]) rfl ?_
    rw [Hx.out]
    exact ⟨_, _, _, _, _, p5, nx5, kd5, sy5, false, M, rfl, ((((Kp.refl [g] w).alloc _).alloc _).trans hk5).set3 (.inr (Nat.le_refl _)), Box.same hB5 hk3 (by simp; omega), hM5.out.kp hk3 (by simpa using hb0.out), Ext.refl _ _, rfl, rfl, rfl, ExV.leaf _ _ _ _ _, hT5, rfl⟩
  by_cases hK3 : kd = 3
  · have hn1 : kd ≠ 1 := hK
    clear hK
    have hK := hK3
    have b1 : (kd == 1) = false := by rw [hK]; rfl
    have b3 : (kd == 3) = true := by rw [hK]; rfl
    have ht : tk (sk r) = some [91, 93] := by
      cases ht : tk (sk r) with
      | none => have := hK.symm.trans (tok_none HT.out ht); omega
      | some u => rw [(kind_none ht).2 (by rw [← tok_some HT.out ht, hK])]
    have Hx := Hid.mk (atom_leaf (e := .mk 2 [] []) ht (by decide) rfl HX.out)
    have Ht := Hid.mk ht
    clear ht hK hK3
    go_enter Try.func106, Try.ntmps106
    go_wp2_with fail
    refine (adv_calls hl HT.out Ht.out (Box.alloc (Box.alloc HPB.out _) _)).mono ?_
    rintro e w5 ⟨p5, nx5, kd5, sy5, rfl, hk5, hB5, hT5⟩
    obtain ⟨hx0, hx1⟩ := two_boxes hM #[.int .i64 0, .string ⟨#[]⟩, .slice none 0 0] #[.int .i64 2, .string ⟨#[]⟩, .slice none 0 0] 25 25
    have hb0 := hx0.same hk5 (by simp; omega)
    have hb1 := hx1.same hk5 (by simp; omega)
    obtain ⟨⟨q0, q1, q2⟩, _, _, _⟩ := hb1.three
    obtain ⟨⟨p0, p1, p2⟩, f0', f1', f2'⟩ := hb0.three
    have HA := Hid.mk (And.intro hk5 (And.intro hB5 (And.intro hT5 (And.intro hb0 hb1))))
    have hM5 := Hid.mk (((hM.alloc (.cells #[.int .i64 0, .string ⟨#[]⟩, .slice none 0 0] 25)).alloc (.cells #[.int .i64 2, .string ⟨#[]⟩, .slice none 0 0] 25)).kp hk5 (by simpa using hB5.out))
    clear hk5 hB5 hT5 hb0 hb1 hx0 hx1 c3 c4 c5 f5
    go_wp2_with fail
    obtain ⟨hk5, hB5, hT5, hb0, hb1⟩ := HA.out
    have hk3 := Kp.set3 (b := w.heap.size) (x' := .int .i64 2) (y' := .string ⟨#[]⟩) (z' := .slice none 0 0) (Kp.refl [w.heap.size] w5) (.inl (by simp))
    obtain ⟨⟨r0, r1, r2⟩, _, _, _⟩ := (hb0.set3 (x' := .int .i64 2) (y' := .string ⟨#[]⟩) (z' := .slice none 0 0)).three
    refine bodyPost_ret (v := .agg #[.int .i64 2, .string ⟨#[]⟩, .slice none 0 0]) (by simp [results, Try.results106, go_sem, r0, r1, r2]) rfl ?_
    rw [Hx.out]
    exact ⟨_, _, _, _, _, p5, nx5, kd5, sy5, false, M, rfl, ((((Kp.refl [g] w).alloc _).alloc _).trans hk5).set3 (.inr (Nat.le_refl _)), Box.same hB5 hk3 (by simp; omega), hM5.out.kp hk3 (by simpa using hb0.out), Ext.refl _ _, rfl, rfl, rfl, ExV.leaf _ _ _ _ _, hT5, rfl⟩
  by_cases hK46 : kd = 46
  · have hKo := hK
    clear hK
    have hK := hK46
    have b1 : (kd == 1) = false := by rw [hK]; rfl
    have b3 : (kd == 3) = false := by rw [hK]; rfl
    have b46 : (kd == 46) = true := by rw [hK]; rfl
    have ht : tk (sk r) = some [46] := by
      cases ht : tk (sk r) with
      | none => have := hK.symm.trans (tok_none HT.out ht); omega
      | some u => rw [(kind_mark ht (k := 46) (by decide)).2 (by rw [← tok_some HT.out ht, hK]; rfl)]
    have Hx := Hid.mk (atom_leaf (e := .mk 1 [] []) ht (by decide) rfl HX.out)
    have Ht := Hid.mk ht
    clear ht hK hK46
    go_enter Try.func106, Try.ntmps106
    go_wp2_with fail
    refine (adv_calls hl HT.out Ht.out (Box.alloc (Box.alloc HPB.out _) _)).mono ?_
    rintro e w5 ⟨p5, nx5, kd5, sy5, rfl, hk5, hB5, hT5⟩
    obtain ⟨hx0, hx1⟩ := two_boxes hM #[.int .i64 0, .string ⟨#[]⟩, .slice none 0 0] #[.int .i64 1, .string ⟨#[]⟩, .slice none 0 0] 25 25
    have hb0 := hx0.same hk5 (by simp; omega)
    have hb1 := hx1.same hk5 (by simp; omega)
    obtain ⟨⟨q0, q1, q2⟩, _, _, _⟩ := hb1.three
    obtain ⟨⟨p0, p1, p2⟩, f0', f1', f2'⟩ := hb0.three
    have HA := Hid.mk (And.intro hk5 (And.intro hB5 (And.intro hT5 (And.intro hb0 hb1))))
    have hM5 := Hid.mk (((hM.alloc (.cells #[.int .i64 0, .string ⟨#[]⟩, .slice none 0 0] 25)).alloc (.cells #[.int .i64 1, .string ⟨#[]⟩, .slice none 0 0] 25)).kp hk5 (by simpa using hB5.out))
    clear hk5 hB5 hT5 hb0 hb1 hx0 hx1 c3 c4 c5 f5
    go_wp2_with fail
    obtain ⟨hk5, hB5, hT5, hb0, hb1⟩ := HA.out
    have hk3 := Kp.set3 (b := w.heap.size) (x' := .int .i64 1) (y' := .string ⟨#[]⟩) (z' := .slice none 0 0) (Kp.refl [w.heap.size] w5) (.inl (by simp))
    obtain ⟨⟨r0, r1, r2⟩, _, _, _⟩ := (hb0.set3 (x' := .int .i64 1) (y' := .string ⟨#[]⟩) (z' := .slice none 0 0)).three
    refine bodyPost_ret (v := .agg #[.int .i64 1, .string ⟨#[]⟩, .slice none 0 0]) (by simp [results, Try.results106, go_sem, r0, r1, r2]) rfl ?_
    rw [Hx.out]
    exact ⟨_, _, _, _, _, p5, nx5, kd5, sy5, false, M, rfl, ((((Kp.refl [g] w).alloc _).alloc _).trans hk5).set3 (.inr (Nat.le_refl _)), Box.same hB5 hk3 (by simp; omega), hM5.out.kp hk3 (by simpa using hb0.out), Ext.refl _ _, rfl, rfl, rfl, ExV.leaf _ _ _ _ _, hT5, rfl⟩
  by_cases hK33 : kd = 33
  · have hKo := hK
    clear hK
    have hK := hK33
    have b1 : (kd == 1) = false := by rw [hK]; rfl
    have b3 : (kd == 3) = false := by rw [hK]; rfl
    have b46 : (kd == 46) = false := by rw [hK]; rfl
    have b33 : (kd == 33) = true := by rw [hK]; rfl
    have ht : tk (sk r) = some [33] := by
      cases ht : tk (sk r) with
      | none => have := hK.symm.trans (tok_none HT.out ht); omega
      | some u => rw [(kind_mark ht (k := 33) (by decide)).2 (by rw [← tok_some HT.out ht, hK]; rfl)]
    have Hx := Hid.mk (atom_leaf (e := .mk 3 [] []) ht (by decide) rfl HX.out)
    have Ht := Hid.mk ht
    clear ht hK hK33
    go_enter Try.func106, Try.ntmps106
    go_wp2_with fail
    refine (adv_calls hl HT.out Ht.out (Box.alloc (Box.alloc HPB.out _) _)).mono ?_
    rintro e w5 ⟨p5, nx5, kd5, sy5, rfl, hk5, hB5, hT5⟩
    obtain ⟨hx0, hx1⟩ := two_boxes hM #[.int .i64 0, .string ⟨#[]⟩, .slice none 0 0] #[.int .i64 3, .string ⟨#[]⟩, .slice none 0 0] 25 25
    have hb0 := hx0.same hk5 (by simp; omega)
    have hb1 := hx1.same hk5 (by simp; omega)
    obtain ⟨⟨q0, q1, q2⟩, _, _, _⟩ := hb1.three
    obtain ⟨⟨p0, p1, p2⟩, f0', f1', f2'⟩ := hb0.three
    have HA := Hid.mk (And.intro hk5 (And.intro hB5 (And.intro hT5 (And.intro hb0 hb1))))
    have hM5 := Hid.mk (((hM.alloc (.cells #[.int .i64 0, .string ⟨#[]⟩, .slice none 0 0] 25)).alloc (.cells #[.int .i64 3, .string ⟨#[]⟩, .slice none 0 0] 25)).kp hk5 (by simpa using hB5.out))
    clear hk5 hB5 hT5 hb0 hb1 hx0 hx1 c3 c4 c5 f5
    go_wp2_with fail
    obtain ⟨hk5, hB5, hT5, hb0, hb1⟩ := HA.out
    have hk3 := Kp.set3 (b := w.heap.size) (x' := .int .i64 3) (y' := .string ⟨#[]⟩) (z' := .slice none 0 0) (Kp.refl [w.heap.size] w5) (.inl (by simp))
    obtain ⟨⟨r0, r1, r2⟩, _, _, _⟩ := (hb0.set3 (x' := .int .i64 3) (y' := .string ⟨#[]⟩) (z' := .slice none 0 0)).three
    refine bodyPost_ret (v := .agg #[.int .i64 3, .string ⟨#[]⟩, .slice none 0 0]) (by simp [results, Try.results106, go_sem, r0, r1, r2]) rfl ?_
    rw [Hx.out]
    exact ⟨_, _, _, _, _, p5, nx5, kd5, sy5, false, M, rfl, ((((Kp.refl [g] w).alloc _).alloc _).trans hk5).set3 (.inr (Nat.le_refl _)), Box.same hB5 hk3 (by simp; omega), hM5.out.kp hk3 (by simpa using hb0.out), Ext.refl _ _, rfl, rfl, rfl, ExV.leaf _ _ _ _ _, hT5, rfl⟩
  by_cases hK91 : kd = 91
  · have hKo := hK
    clear hK
    have hK := hK91
    have b1 : (kd == 1) = false := by rw [hK]; rfl
    have b3 : (kd == 3) = false := by rw [hK]; rfl
    have b46 : (kd == 46) = false := by rw [hK]; rfl
    have b33 : (kd == 33) = false := by rw [hK]; rfl
    have b91 : (kd == 91) = true := by rw [hK]; rfl
    obtain ⟨z, ht, h3, h4⟩ := atom_brack HT.out hK HX.out
    have Ht := Hid.mk ht
    have H3 := Hid.mk h3
    have H4 := Hid.mk h4
    clear ht h3 h4 hK hK91
    go_enter Try.func106, Try.ntmps106
    go_wp2_with fail
    refine (adv_calls hl HT.out Ht.out (Box.alloc (Box.alloc HPB.out _) _)).mono ?_
    rintro e w2 ⟨p4, nx4, kd4, sy4, rfl, hk2, hB2, hT2⟩
    obtain ⟨hx0, hx1⟩ := two_boxes hM #[.int .i64 0, .string ⟨#[]⟩, .slice none 0 0] #[.int .i64 0, .string ⟨#[]⟩, .slice none 0 0] 25 25
    have HT2 := Hid.mk hT2
    have hM2 := ((hM.alloc (.cells #[.int .i64 0, .string ⟨#[]⟩, .slice none 0 0] 25)).alloc (.cells #[.int .i64 0, .string ⟨#[]⟩, .slice none 0 0] 25)).kp hk2 (by simpa using hB2.out)
    have hb02 := hx0.same hk2 (by simp; omega)
    have hb12 := hx1.same hk2 (by simp; omega)
    clear hT2 hx0 hx1 c3 c4 c5 f5
    go_wp2_with fail
    refine (hS k (Nat.le_refl _) g l _ _ M z p4 nx4 kd4 sy4 HT2.out hB2 hM2 hl H3.out).mono ?_
    rintro e w3 ⟨o3, s3, A3, n3, c3', p3, nx3, kd3, sy3, bd3, M3, rfl, hk3, hB3, hM3, he3, hG3⟩
    have hb03 := hb02.kp hk3 (by simp; omega) he3 hb02.lt
    have hb13 := hb12.kp hk3 (by simp; omega) he3 hb12.lt
    have hK3 := ((((Kp.refl [g] w).alloc (.cells #[.int .i64 0, .string ⟨#[]⟩, .slice none 0 0] 25)).alloc (.cells #[.int .i64 0, .string ⟨#[]⟩, .slice none 0 0] 25)).trans hk2).trans hk3
    have he3' := he3.low (show w.heap.size ≤ _ by have := hk2.size; simp at this; omega)
    have hlt3 := hb13.lt
    have hset : Kp [w.heap.size + 1] w3 (((w3.setCell ⟨w.heap.size + 1, 0, none⟩ (.int .i64 o3)).setCell ⟨w.heap.size + 1, 1, none⟩ (.string s3)).setCell ⟨w.heap.size + 1, 2, none⟩ (.slice A3 n3 c3')) := Kp.set3 (Kp.refl [w.heap.size + 1] w3) (.inl (by simp))
    have hb14 := hb13.set3 (x' := .int .i64 o3) (y' := .string s3) (z' := .slice A3 n3 c3')
    have hb04 := hb03.same hset (by simp)
    have hB4 := Box.same hB3 hset (by simp; omega)
    have hM4 := hM3.kp hset (by simpa using hb13.out)
    have hK4 := hK3.inner hset (by simp)
    obtain ⟨_, x0, x1, x2⟩ := hb13.three
    clear hb02 hb12 hb03 hb13 hB2 hM2 hM3 hK3 hB3 he3 hk2 hk3
    go_upto_region 15 with fail
    clear x0 x1 x2
    generalize (((w3.setCell ⟨w.heap.size + 1, 0, none⟩ (.int .i64 o3)).setCell ⟨w.heap.size + 1, 1, none⟩ (.string s3)).setCell ⟨w.heap.size + 1, 2, none⟩ (.slice A3 n3 c3')) = w4 at *
    obtain ⟨⟨c0, c1, c2, c3, c4, c5⟩, f1, f2, f3, f4, f5⟩ := PB.cells hB4
    clear c0 c1 c2 c4 f1 f2 f3 f4
    obtain ⟨⟨q0, q1, q2⟩, _, _, _⟩ := hb14.three
    obtain ⟨⟨p0, p1, p2⟩, f0', f1', f2'⟩ := hb04.three
    have hz14 := hb14.lt
    have HA := Hid.mk (And.intro hb14 (And.intro hb04 (And.intro hB4 (And.intro hM4 (And.intro hK4 (And.intro he3' hG3))))))
    clear hset hb14 hb04 hB4 hM4 hK4 he3' hG3
    cases bd3 with
    | true =>
      obtain ⟨q, e1, e2⟩ := brack_bad HA.out.2.2.2.2.2.2 H4.out (.inl rfl)
      have HE := Hid.mk (And.intro e1 e2)
      clear e1 e2
      go_wp2_with fail
      obtain ⟨hb14, hb04, hB4, hM4, hK4, he3', hG3⟩ := HA.out
      have hkb : Kp [g] w4 (w4.setCell ⟨g, 5, none⟩ (.bool true)) := (Kp.refl [g] w4).setCell (.inl (by simp)) _
      have hBb : PB (w4.setCell ⟨g, 5, none⟩ (.bool true)) M3 g l p3 nx3 kd3 sy3 true := Box.set hB4 5 _
      have hb05 := hb04.same hkb (by simp; omega)
      have hM5 := hM4.kp hkb (by simpa using hB4.out)
      have hk3 := Kp.set3 (b := w.heap.size) (x' := .int .i64 o3) (y' := .string s3) (z' := .slice A3 n3 c3') (Kp.refl [w.heap.size] (w4.setCell ⟨g, 5, none⟩ (.bool true))) (.inl (by simp))
      obtain ⟨⟨r0, r1, r2'⟩, _, _, _⟩ := (hb05.set3 (x' := .int .i64 o3) (y' := .string s3) (z' := .slice A3 n3 c3')).three
      refine bodyPost_ret (v := .agg #[.int .i64 o3, .string s3, .slice A3 n3 c3']) (by simp [results, Try.results106, go_sem, r0, r1, r2']) rfl ?_
      rw [HE.out.1]
      exact ⟨_, _, _, _, _, p3, nx3, kd3, sy3, true, M3, rfl, (hK4.trans hkb).set3 (.inr (Nat.le_refl _)), Box.same hBb hk3 (by simp; omega), hM5.kp hk3 (by simpa using hb05.out), he3', HE.out.2, .inl rfl⟩
    | false =>
      by_cases h93 : kd3 = 93
      · have b93 : (kd3 != 93) = false := by rw [h93]; rfl
        obtain ⟨a, r2, e1, e2, e3, e4, e5, e6, e7⟩ := brack_ok HA.out.2.2.2.2.2.2 H4.out h93
        have HE := Hid.mk (And.intro e1 (And.intro e2 (And.intro e3 (And.intro e4 (And.intro e5 (And.intro e6 e7))))))
        clear e1 e2 e3 e4 e5 e6 e7 h93
        go_wp2_with fail
        have hkb : Kp [g] w4 (w4.setCell ⟨g, 5, none⟩ (.bool false)) := (Kp.refl [g] w4).setCell (.inl (by simp)) _
        have hBb : PB (w4.setCell ⟨g, 5, none⟩ (.bool false)) M3 g l p3 nx3 kd3 sy3 false := Box.set HA.out.2.2.1 5 _
        refine (adv_calls hl HE.out.2.2.2.2.1 HE.out.2.2.2.2.2.1 hBb).mono ?_
        rintro e w5 ⟨p5, nx5, kd5, sy5, rfl, hk5, hB5, hT5⟩
        obtain ⟨hb14, hb04, hB4, hM4, hK4, he3', hG3⟩ := HA.out
        have hb15 := (hb14.same hkb (by simp; omega)).same hk5 (by simp; omega)
        have hb05 := (hb04.same hkb (by simp; omega)).same hk5 (by simp; omega)
        have hM5 := (hM4.kp hkb (by simpa using hB4.out)).kp hk5 (by simpa using hB4.out)
        have hK5 := (hK4.trans hkb).trans hk5
        clear q0 q1 q2 p0 p1 p2 f0' f1' f2' c3 c5 f5
        obtain ⟨⟨q0, q1, q2⟩, _, _, _⟩ := hb15.three
        obtain ⟨⟨p0, p1, p2⟩, f0', f1', f2'⟩ := hb05.three
        have HC := Hid.mk (And.intro hb05 (And.intro hM5 (And.intro hK5 (And.intro hB5 (And.intro hT5 he3')))))
        clear hb14 hb04 hB4 hM4 hK4 he3' hG3 hb15 hb05 hM5 hK5 hB5 hT5 hk5 hkb hBb
        go_wp2_with fail
        obtain ⟨hb05, hM5, hK5, hB5, hT5, he3'⟩ := HC.out
        have hk3 := Kp.set3 (b := w.heap.size) (x' := .int .i64 o3) (y' := .string s3) (z' := .slice A3 n3 c3') (Kp.refl [w.heap.size] w5) (.inl (by simp))
        obtain ⟨⟨r0, r1, r2'⟩, _, _, _⟩ := (hb05.set3 (x' := .int .i64 o3) (y' := .string s3) (z' := .slice A3 n3 c3')).three
        refine bodyPost_ret (v := .agg #[.int .i64 o3, .string s3, .slice A3 n3 c3']) (by simp [results, Try.results106, go_sem, r0, r1, r2']) rfl ?_
        obtain ⟨e1, e2, e3, e4, e5, e6, e7⟩ := HE.out
        rw [e7]
        exact ⟨_, _, _, _, _, p5, nx5, kd5, sy5, false, M3, rfl, hK5.set3 (.inr (Nat.le_refl _)), Box.same hB5 hk3 (by simp; omega), hM5.kp hk3 (by simpa using hb05.out), he3', e1, e2, e3, e4, hT5, rfl⟩
      · have b93 : (kd3 != 93) = true := by simpa using h93
        obtain ⟨q, e1, e2⟩ := brack_bad HA.out.2.2.2.2.2.2 H4.out (.inr h93)
        have HE := Hid.mk (And.intro e1 e2)
        clear e1 e2 h93
        go_wp2_with fail
        obtain ⟨hb14, hb04, hB4, hM4, hK4, he3', hG3⟩ := HA.out
        have hkb : Kp [g] w4 (w4.setCell ⟨g, 5, none⟩ (.bool true)) := (Kp.refl [g] w4).setCell (.inl (by simp)) _
        have hBb : PB (w4.setCell ⟨g, 5, none⟩ (.bool true)) M3 g l p3 nx3 kd3 sy3 true := Box.set hB4 5 _
        have hb05 := hb04.same hkb (by simp; omega)
        have hM5 := hM4.kp hkb (by simpa using hB4.out)
        have hk3 := Kp.set3 (b := w.heap.size) (x' := .int .i64 o3) (y' := .string s3) (z' := .slice A3 n3 c3') (Kp.refl [w.heap.size] (w4.setCell ⟨g, 5, none⟩ (.bool true))) (.inl (by simp))
        obtain ⟨⟨r0, r1, r2'⟩, _, _, _⟩ := (hb05.set3 (x' := .int .i64 o3) (y' := .string s3) (z' := .slice A3 n3 c3')).three
        refine bodyPost_ret (v := .agg #[.int .i64 o3, .string s3, .slice A3 n3 c3']) (by simp [results, Try.results106, go_sem, r0, r1, r2']) rfl ?_
        rw [HE.out.1]
        exact ⟨_, _, _, _, _, p3, nx3, kd3, sy3, true, M3, rfl, (hK4.trans hkb).set3 (.inr (Nat.le_refl _)), Box.same hBb hk3 (by simp; omega), hM5.kp hk3 (by simpa using hb05.out), he3', HE.out.2, .inl rfl⟩
  have b1 : (kd == 1) = false := by simpa using hK
  have b3 : (kd == 3) = false := by simpa using hK3
  have b46 : (kd == 46) = false := by simpa using hK46
  have b33 : (kd == 33) = false := by simpa using hK33
  have b91 : (kd == 91) = false := by simpa using hK91
  have b126 : (kd == 126) = false := by simpa using HN.out.1
  have b36 : (kd == 36) = false := by simpa using HN.out.2
  have Hx := Hid.mk (atom_bad HT.out (by simp only [atomI, b1, b3, b46, b33, b91, b126, b36]; rfl) HX.out)
  clear hK hK3 hK46 hK33 hK91 b126 b36
  obtain ⟨hx0, hx1⟩ := two_boxes hM #[.int .i64 0, .string ⟨#[]⟩, .slice none 0 0] #[.int .i64 0, .string ⟨#[]⟩, .slice none 0 0] 25 25
  have HA := Hid.mk (And.intro hx0 hx1)
  clear hx0 hx1
  go_enter Try.func106, Try.ntmps106
  go_wp2_with fail
  have hkb : Kp [g] w (w.setCell ⟨g, 5, none⟩ (.bool true)) := (Kp.refl [g] w).setCell (.inl (by simp)) _
  have hz : (w.setCell ⟨g, 5, none⟩ (.bool true)).heap.size = w.heap.size := by simp [World.setCell]
  have hM1 := hM.kp hkb (by simpa using HPB.out.out)
  obtain ⟨hx0, hx1⟩ := two_boxes hM1 #[.int .i64 0, .string ⟨#[]⟩, .slice none 0 0] #[.int .i64 0, .string ⟨#[]⟩, .slice none 0 0] 25 25
  rw [hz] at hx0
  obtain ⟨⟨r0, r1, r2⟩, _, _, _⟩ := hx0.three
  refine bodyPost_ret (v := .agg #[.int .i64 0, .string ⟨#[]⟩, .slice none 0 0]) (by simp [results, Try.results106, go_sem, r0, r1, r2]) rfl ?_
  rw [Hx.out]
  exact ⟨_, _, _, _, _, p, nx, kd, sy, true, M, rfl, (hkb.alloc _).alloc _, Box.alloc (Box.alloc (Box.set HPB.out 5 _) _) _, (hM1.alloc _).alloc _, Ext.refl _ _, HT.out.2.1, .inl rfl⟩
end Go.Proofs.Ytgdnhlckodhhgaa
