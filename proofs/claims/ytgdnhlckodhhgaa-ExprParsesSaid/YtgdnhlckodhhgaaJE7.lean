/-
  The reference's reader: what stands in brackets, or all.
-/
import Derived.Test.YtgdnhlckodhhgaaJG
import Derived.Test.YtgdnhlckodhhgaaJA7
namespace Go.Proofs.Ytgdnhlckodhhgaa
open Go.RowKit
set_option linter.unusedVariables false
set_option linter.unusedSimpArgs false
def wF3 (a x1 : E) : E × Bs → Option (Ex (E × Bs)) := fun (y, r7) => some (.ok (.mk 14 [] [a, x1, y], r7))
def wH (k : Nat) (a x1 : E) (r5 : Bs) : Option (Ex (E × Bs)) := lf (token r5) fun (t, r6) => bx (if t = [] ∨ t = [93] then some (.ok (noneE, r6)) else G k (.lv 1 r6)) (wF3 a x1)
def wF2 (k : Nat) (a : E) : E × Bs → Option (Ex (E × Bs)) := fun (x, r4) => lf (takeT [95] r4) fun (b, r5) => if b = false then some (.error r5) else wH k a x r5
def wH2 (k : Nat) (a : E) (r2 : Bs) : Option (Ex (E × Bs)) := lf (token r2) fun (t, r3) => bx (if t = [95] then some (.ok (noneE, r3)) else G k (.lv 1 r3)) (wF2 k a)
def wF1 (k : Nat) : E × Bs → Option (Ex (E × Bs)) := fun (a, r1) => lf (takeT [61, 62] r1) fun (b, r2) => if b = false then some (.ok (a, r2)) else wH2 k a r2
theorem G0w (k : Nat) (r : Bs) : G (k + 1) (.lv 0 r) = bx (G k (.lv 1 r)) (wF1 k) := by simp only [G]; rfl
theorem lv_few {k : Nat} {r : Bs} {x : Ex (E × Bs)} (h : G k (.lv 1 r) = some x) : 7 ≤ k := by
  rcases Nat.lt_or_ge k 7 with hk | hk
  · exfalso
    match k, hk with
    | 0, _ | 1, _ | 2, _ | 3, _ | 4, _ | 5, _ | 6, _ => simp [G, bx] at h
  · exact hk
theorem lv_bad {k : Nat} {r : Bs} (ht : tk (sk r) = none) (hk : 7 ≤ k) : G k (.lv 1 r) = some (.error (sk r)) := by
  obtain ⟨k, rfl⟩ : ∃ j, k = j + 7 := ⟨k - 7, by omega⟩
  have h7 : G (k + 1) (.lv 7 r) = some (.error (sk r)) := by rw [G7, token_none ht]; rfl
  have h6 : G (k + 2) (.lv 6 r) = some (.error (sk r)) := by simp only [G.eq_8, h7, bx] <;> simp [G, h7, bx]
  have h5 : G (k + 3) (.lv 5 r) = some (.error (sk r)) := by simp [G, h6, bx]
  have h4 : G (k + 4) (.lv 4 r) = some (.error (sk r)) := by simp [G, h5, bx]
  have h3 : G (k + 5) (.lv 3 r) = some (.error (sk r)) := by simp [G, h4, bx]
  have h2 : G (k + 6) (.lv 2 r) = some (.error (sk r)) := by simp [G, h3, bx]
  simp [G, h2, bx]
section
variable {M : Heap} {l : Bs} {z x : Ex (E × Bs)} {o : Int} {sb : ByteArray} {A : Option Addr} {n c k : Nat} {p nx kd : Int} {sy : ByteArray} {bd : Bool} {a x1 : E} {r2 r5 : Bs}
theorem whole_out (h : RGh M l z o sb A n c p nx kd sy bd) (hx : Nx z (wF1 k) x) (hk : bd = true ∨ kd ≠ 2) : RGh M l x o sb A n c p nx kd sy bd := by
  cases z with
  | error q =>
    have hx : x = .error q := hx
    subst hx; exact h
  | ok y =>
    obtain ⟨a, r1⟩ := y
    obtain ⟨h1, h2, h3, h4, hT, hb⟩ := h
    have hk := hk.elim (fun h => by rw [hb] at h; cases h) id
    have hx : wF1 k (a, r1) = some x := hx
    simp only [wF1] at hx
    cases ht : tk (sk r1) with
    | none =>
      rw [takeT_no ht] at hx
      simp only [lf, Option.some.injEq] at hx
      subst hx
      exact ⟨hT.2.1, .inr (tok_none hT ht)⟩
    | some u =>
      rw [takeT_eq ht, if_neg (fun e => hk (by rw [tok_some hT ht, (kind_only ht).1 e]))] at hx
      simp only [lf, if_true, Option.some.injEq] at hx
      subst hx
      exact ⟨h1, h2, h3, h4, tok_sk hT, hb⟩
theorem whole_in (h : RGh M l z o sb A n c p nx kd sy false) (hx : Nx z (wF1 k) x) (hk : kd = 2) :
    ∃ a r1, o = a.op ∧ sb = bs a.s ∧ n = a.l.length ∧ ExV M a A c ∧ Tok l r1 p nx kd sy ∧ tk (sk r1) = some [61, 62] ∧ wH2 k a ((sk r1).drop [(61 : UInt8), 62].length) = some x := by
  cases z with
  | error q =>
    rcases h.2 with h | h
    · cases h
    · rw [hk] at h; exact absurd h (by omega)
  | ok y =>
    obtain ⟨a, r1⟩ := y
    obtain ⟨h1, h2, h3, h4, hT, hb⟩ := h
    have hx : wF1 k (a, r1) = some x := hx
    simp only [wF1] at hx
    have ht : tk (sk r1) = some [61, 62] := by
      cases ht : tk (sk r1) with
      | none => have := hk.symm.trans (tok_none hT ht); omega
      | some u => rw [(kind_only ht).2 (by rw [← tok_some hT ht, hk])]
    rw [takeT_eq ht, if_pos rfl] at hx
    simp only [lf, Bool.true_eq_false, if_false] at hx
    exact ⟨a, r1, h1, h2, h3, h4, hT, ht, hx⟩
theorem mid_no (hT : Tok l r2 p nx kd sy) (h : wH2 k a r2 = some x) (hk : kd = 95) : Nx (.ok (noneE, sk r2)) (wF2 k a) x := by
  have ht : tk (sk r2) = some [95] := by
    cases ht : tk (sk r2) with
    | none => have := hk.symm.trans (tok_none hT ht); omega
    | some u => rw [(kind_mark ht (k := 95) (by decide)).2 (by rw [← tok_some hT ht, hk]; rfl)]
  rw [wH2, token_some ht] at h
  simp only [lf, if_true, bx] at h
  exact h
theorem mid_yes (h7 : 7 ≤ k) (hT : Tok l r2 p nx kd sy) (h : wH2 k a r2 = some x) (hk : kd ≠ 95) : ∃ z, G k (.lv 1 (sk r2)) = some z ∧ Nx z (wF2 k a) x := by
  rw [wH2] at h
  cases ht : tk (sk r2) with
  | none =>
    rw [token_none ht] at h
    simp only [lf, Option.some.injEq] at h
    refine ⟨.error (sk r2), ?_, h.symm⟩
    have := lv_bad (r := sk r2) (by rw [sk_sk]; exact ht) h7
    rwa [sk_sk] at this
  | some u =>
    rw [token_some ht] at h
    simp only [lf] at h
    rw [if_neg (fun e => hk (by rw [tok_some hT ht, (kind_mark ht (k := 95) (by decide)).1 e]; rfl))] at h
    exact bx_any h
theorem mid_bad (h : RGh M l z o sb A n c p nx kd sy bd) (hx : Nx z (wF2 k a) x) (hk : bd = true ∨ kd ≠ 95) : ∃ q, x = .error q ∧ p = (at_ l q : Nat) := by
  cases z with
  | error q => exact ⟨q, hx, h.1⟩
  | ok y =>
    obtain ⟨x1, r4⟩ := y
    obtain ⟨_, _, _, _, hT, hb⟩ := h
    have hk := hk.elim (fun h => by rw [hb] at h; cases h) id
    have hx : wF2 k a (x1, r4) = some x := hx
    simp only [wF2] at hx
    cases ht : tk (sk r4) with
    | none =>
      rw [takeT_no ht] at hx
      simp only [lf, Option.some.injEq] at hx
      exact ⟨_, hx.symm, hT.2.1⟩
    | some u =>
      rw [takeT_eq ht, if_neg (fun e => hk (by rw [tok_some hT ht, (kind_mark ht (k := 95) (by decide)).1 e]; rfl))] at hx
      simp only [lf, if_true, Option.some.injEq] at hx
      exact ⟨_, hx.symm, hT.2.1⟩
theorem mid_ok (h : RGh M l z o sb A n c p nx kd sy false) (hx : Nx z (wF2 k a) x) (hk : kd = 95) :
    ∃ x1 r4, o = x1.op ∧ sb = bs x1.s ∧ n = x1.l.length ∧ ExV M x1 A c ∧ Tok l r4 p nx kd sy ∧ tk (sk r4) = some [95] ∧ wH k a x1 ((sk r4).drop [(95 : UInt8)].length) = some x := by
  cases z with
  | error q =>
    rcases h.2 with h | h
    · cases h
    · rw [hk] at h; exact absurd h (by omega)
  | ok y =>
    obtain ⟨x1, r4⟩ := y
    obtain ⟨h1, h2, h3, h4, hT, hb⟩ := h
    have hx : wF2 k a (x1, r4) = some x := hx
    simp only [wF2] at hx
    have ht : tk (sk r4) = some [95] := by
      cases ht : tk (sk r4) with
      | none => have := hk.symm.trans (tok_none hT ht); omega
      | some u => rw [(kind_mark ht (k := 95) (by decide)).2 (by rw [← tok_some hT ht, hk]; rfl)]
    rw [takeT_eq ht, if_pos rfl] at hx
    simp only [lf, Bool.true_eq_false, if_false] at hx
    exact ⟨x1, r4, h1, h2, h3, h4, hT, ht, hx⟩
theorem end_no (hT : Tok l r5 p nx kd sy) (h : wH k a x1 r5 = some x) (hk : kd = 0 ∨ kd = 93) : Nx (.ok (noneE, sk r5)) (wF3 a x1) x := by
  cases ht : tk (sk r5) with
  | none => have := tok_none hT ht; omega
  | some u =>
    have hu : u = [] ∨ u = [93] := by
      rcases hk with hk | hk
      · exact .inl ((kind_end ht).2 (by rw [← tok_some hT ht, hk]))
      · exact .inr ((kind_mark ht (k := 93) (by decide)).2 (by rw [← tok_some hT ht, hk]; rfl))
    rw [wH, token_some ht] at h
    simp only [lf, if_pos hu, bx] at h
    exact h
theorem end_yes (h7 : 7 ≤ k) (hT : Tok l r5 p nx kd sy) (h : wH k a x1 r5 = some x) (hk0 : kd ≠ 0) (hk : kd ≠ 93) : ∃ z, G k (.lv 1 (sk r5)) = some z ∧ Nx z (wF3 a x1) x := by
  rw [wH] at h
  cases ht : tk (sk r5) with
  | none =>
    rw [token_none ht] at h
    simp only [lf, Option.some.injEq] at h
    refine ⟨.error (sk r5), ?_, h.symm⟩
    have := lv_bad (r := sk r5) (by rw [sk_sk]; exact ht) h7
    rwa [sk_sk] at this
  | some u =>
    rw [token_some ht] at h
    simp only [lf] at h
    have hu : ¬ (u = [] ∨ u = [93]) := by
      rintro (e | e)
      · exact hk0 (by rw [tok_some hT ht, (kind_end ht).1 e])
      · exact hk (by rw [tok_some hT ht, (kind_mark ht (k := 93) (by decide)).1 e]; rfl)
    rw [if_neg hu] at h
    exact bx_any h
end
theorem row3 {w : World} {M' : Heap} {b : Nat} {l : Bs} {z x : Ex (E × Bs)} {t3 : RT} {a x1 : E} {A1 A2 : Option Addr} {c1 c2 : Nat} {p nx kd : Int} {sy : ByteArray} {bd : Bool} (hb : w.heap[b]? = some (.cells #[.int .i64 a.op, .string (bs a.s), .slice A1 a.l.length c1, .int .i64 x1.op, .string (bs x1.s), .slice A2 x1.l.length c2, .int .i64 t3.o, .string t3.s, .slice t3.A t3.n t3.c] 25)) (hno : M' b = none) (hM : Mem w M')
    (ha : ExV M' a A1 c1) (hx1 : ExV M' x1 A2 c2) (h : RGh M' l z t3.o t3.s t3.A t3.n t3.c p nx kd sy bd) (hx : Nx z (wF3 a x1) x) (m : Nat) (hm : m ≤ b) :
    ∃ M4, RGh M4 l x 14 ⟨#[]⟩ (some ⟨b, 0, none⟩) 3 3 p nx kd sy bd ∧ Mem w M4 ∧ Ext m M' M4 ∧ ∀ y, y ≠ b → M' y = none → M4 y = none := by
  cases z with
  | error q =>
    have hx : x = .error q := hx
    subst hx
    exact ⟨M', h, hM, Ext.refl _ _, fun _ _ h => h⟩
  | ok y =>
    obtain ⟨y, r7⟩ := y
    obtain ⟨h1, h2, h3, h4, hT, hbd⟩ := h
    have hx : wF3 a x1 (y, r7) = some x := hx
    simp only [wF3, Option.some.injEq] at hx
    subst hx
    rw [h1, h2, h3] at hb
    have he : Ext m M' (M'.put b (.cells #[.int .i64 a.op, .string (bs a.s), .slice A1 a.l.length c1, .int .i64 x1.op, .string (bs x1.s), .slice A2 x1.l.length c2, .int .i64 y.op, .string (bs y.s), .slice t3.A y.l.length t3.c] 25)) := Ext.put hm hno
    refine ⟨_, ?_, hM.put hb, he, fun x hx h0 => by rw [Heap.put_ne hx]; exact h0⟩
    refine ⟨rfl, rfl, rfl, ?_, hT, hbd⟩
    exact ExV.node (ps := [(a, A1, c1), (x1, A2, c2), (y, t3.A, t3.c)]) (spare := []) 14 [] Heap.put_same (by simp [flat]) (by simp) ((((AllV.one ha).snoc (p := (x1, A2, c2)) hx1).snoc (p := (y, t3.A, t3.c)) h4).ext he)
set_option maxRecDepth 100000 in
set_option maxHeartbeats 8000000 in
theorem rwhole_spec {k : Nat} (hS : ∀ k', k' ≤ k → RSpec 49 [.int .i64 45] 1 k') : RSpec 23 [] 0 (k + 1) := by
  intro g l r w M x p nx kd sy hT hB hM hl hx
  rw [G0w] at hx
  obtain ⟨z1, h1, h2⟩ := bx_any hx
  have H7 := Hid.mk (lv_few h1)
  have H1 := Hid.mk h1
  have H2 := Hid.mk h2
  have HT := Hid.mk hT
  have hgw : g < w.heap.size := Box.lt hB
  clear h1 h2 hT hx
  show Calls Try.prog 23 #[.pointer (some ⟨g, 0, none⟩)] w (REnd w M g l x)
  go_enter Try.func23, Try.ntmps23
  go_wp2_with fail
  refine (hS k (Nat.le_refl _) g l r _ M z1 p nx kd sy HT.out (Box.alloc hB _) (hM.alloc _) hl H1.out).mono ?_
  rintro e w1 ⟨o1, s1, A1, n1, c1, p1, nx1, kd1, sy1, bd1, M1, rfl, hk1, hB1, hM1, he1, hG1⟩
  have hsz : w.heap.size < w1.heap.size := by have := hk1.size; simp at this; omega
  have hb8 : Box w1 M1 w.heap.size #[.int .i64 0, .string ⟨#[]⟩, .slice none 0 0] 25 := (Box.new hM _ _).kp hk1 (by simp; omega) he1 (by simp)
  have hba := Box.new hM1 #[.int .i64 o1, .string s1, .slice A1 n1 c1] 25
  have hb0 := hb8.alloc (.cells #[.int .i64 o1, .string s1, .slice A1 n1 c1] 25)
  have hBa := Box.alloc hB1 (.cells #[.int .i64 o1, .string s1, .slice A1 n1 c1] 25)
  have hMa := hM1.alloc (.cells #[.int .i64 o1, .string s1, .slice A1 n1 c1] 25)
  have hKa := (((Kp.refl [g] w).alloc (.cells #[.int .i64 0, .string ⟨#[]⟩, .slice none 0 0] 25)).trans hk1).alloc (.cells #[.int .i64 o1, .string s1, .slice A1 n1 c1] 25)
  have hE1 := he1.low (show w.heap.size ≤ _ by simp)
  clear hb8 hB1 hM1 hk1 he1 hB hM
  go_upto_region 2 with fail
  generalize hba1 : w1.heap.size = ba at *
  generalize w1.alloc (.cells #[.int .i64 o1, .string s1, .slice A1 n1 c1] 25) = w2 at *
  clear hba1
  obtain ⟨⟨c0, c1', c2, c3, c4, c5⟩, f1, f2, f3, f4, f5⟩ := PB.cells hBa
  clear c0 c1' c2 c4 f1 f2 f3 f4 f5
  obtain ⟨⟨q0, q1, q2⟩, _, _, _⟩ := hba.three
  obtain ⟨⟨p0, p1', p2'⟩, f0', f1', f2'⟩ := hb0.three
  have hzb := hba.lt
  have HA := Hid.mk (And.intro hba (And.intro hb0 (And.intro hBa (And.intro hMa (And.intro hKa (And.intro hE1 hG1))))))
  clear hba hb0 hBa hMa hKa hE1 hG1
  cases bd1 with
  | true =>
    have X := Hid.mk (whole_out HA.out.2.2.2.2.2.2 H2.out (.inl rfl))
    go_wp2_with fail
    obtain ⟨hba, hb0, hBa, hMa, hKa, hE1, hG1⟩ := HA.out
    have hk3 := Kp.set3 (b := w.heap.size) (x' := .int .i64 o1) (y' := .string s1) (z' := .slice A1 n1 c1) (Kp.refl [w.heap.size] w2) (.inl (by simp))
    obtain ⟨⟨r0, r1, r2⟩, _, _, _⟩ := (hb0.set3 (x' := .int .i64 o1) (y' := .string s1) (z' := .slice A1 n1 c1)).three
    refine bodyPost_ret (v := .agg #[.int .i64 o1, .string s1, .slice A1 n1 c1]) (by simp [results, Try.results23, go_sem, r0, r1, r2]) rfl ?_
    exact ⟨_, _, _, _, _, p1, nx1, kd1, sy1, _, M1, rfl, hKa.set3 (.inr (Nat.le_refl _)), Box.same hBa hk3 (by simp; omega), hMa.kp hk3 (by simpa using hb0.out), hE1, X.out⟩
  | false =>
    by_cases hk2 : kd1 = 2
    · have b2 : (kd1 != 2) = false := by rw [hk2]; rfl
      obtain ⟨a, r1, e1, e2, e3, e4, e5, e6, e7⟩ := whole_in HA.out.2.2.2.2.2.2 H2.out hk2
      subst e1 e2 e3
      have HE := Hid.mk (And.intro e4 (And.intro e5 (And.intro e6 e7)))
      clear e4 e5 e6 e7 hk2
      go_wp2_with fail
      refine (adv_calls hl HE.out.2.1 HE.out.2.2.1 HA.out.2.2.1).mono ?_
      rintro e w3 ⟨p4, nx4, kd4, sy4, rfl, hk4, hB4, hT4⟩
      obtain ⟨hba, hb0, hBa, hMa, hKa, hE1, hG1⟩ := HA.out
      have hM4 := hMa.kp hk4 (by simpa using hBa.out)
      obtain ⟨hbl, hbr⟩ := two_boxes hM4 #[.int .i64 2, .string ⟨#[]⟩, .slice none 0 0] #[.int .i64 2, .string ⟨#[]⟩, .slice none 0 0] 25 25
      have hba4 := ((hba.same hk4 (by simp; omega)).alloc (.cells #[.int .i64 2, .string ⟨#[]⟩, .slice none 0 0] 25)).alloc (.cells #[.int .i64 2, .string ⟨#[]⟩, .slice none 0 0] 25)
      have hb04 := ((hb0.same hk4 (by simp; omega)).alloc (.cells #[.int .i64 2, .string ⟨#[]⟩, .slice none 0 0] 25)).alloc (.cells #[.int .i64 2, .string ⟨#[]⟩, .slice none 0 0] 25)
      have hB44 := Box.alloc (Box.alloc hB4 (.cells #[.int .i64 2, .string ⟨#[]⟩, .slice none 0 0] 25)) (.cells #[.int .i64 2, .string ⟨#[]⟩, .slice none 0 0] 25)
      have hM44 := (hM4.alloc (.cells #[.int .i64 2, .string ⟨#[]⟩, .slice none 0 0] 25)).alloc (.cells #[.int .i64 2, .string ⟨#[]⟩, .slice none 0 0] 25)
      have hK44 := ((hKa.trans hk4).alloc (.cells #[.int .i64 2, .string ⟨#[]⟩, .slice none 0 0] 25)).alloc (.cells #[.int .i64 2, .string ⟨#[]⟩, .slice none 0 0] 25)
      have hlba : ba < w3.heap.size := Nat.lt_of_lt_of_le hzb hk4.size
      clear q0 q1 q2 p0 p1' p2' f0' f1' f2' c3 c5 hba hb0 hBa hMa hKa hG1 hM4 hB4 hk4 HA
      go_upto_region 6 with fail
      generalize (w3.alloc (.cells #[.int .i64 2, .string ⟨#[]⟩, .slice none 0 0] 25)).alloc (.cells #[.int .i64 2, .string ⟨#[]⟩, .slice none 0 0] 25) = w4 at *
      generalize w3.heap.size = bl at *
      obtain ⟨⟨c0, c1', c2, c3, c4, c5⟩, f1, f2, f3, f4, f5⟩ := PB.cells hB44
      clear c0 c1' c2 c4 c5 f1 f2 f3 f4 f5
      obtain ⟨_, x0, x1, x2⟩ := hbl.three
      have hzl := hbr.lt
      have HT4 := Hid.mk hT4
      have HD := Hid.mk (And.intro hB44 (And.intro hbl (And.intro hbr (And.intro hba4 (And.intro hb04 (And.intro hM44 (And.intro hE1 hK44)))))))
      clear hT4 hB44 hbl hbr hba4 hb04 hM44 hE1 hK44
      go_upto_if 28 with fail
      go_cut [] from 28 to 30 (fun wy => ∃ M' o s' A n c p nx kd sy bd z, PB wy M' g l p nx kd sy bd ∧ Box wy M' bl #[.int .i64 o, .string s', .slice A n c] 25 ∧ Box wy M' (bl + 1) #[.int .i64 2, .string ⟨#[]⟩, .slice none 0 0] 25 ∧ Box wy M' ba #[.int .i64 a.op, .string (bs a.s), .slice A1 a.l.length c1] 25 ∧ Box wy M' w.heap.size #[.int .i64 0, .string ⟨#[]⟩, .slice none 0 0] 25 ∧ Mem wy M' ∧ Ext w.heap.size M M' ∧ Kp [g] w wy ∧ Hid (RGh M' l z o s' A n c p nx kd sy bd ∧ Nx z (wF2 k a) x ∧ ExV M' a A1 c1))
      case first =>
        by_cases h95 : kd4 = 95
        · have b95 : (kd4 != 95) = false := by rw [h95]; rfl
          have X := Hid.mk (mid_no HT4.out HE.out.2.2.2 h95)
          clear h95
          go_wp2_with fail
          go_meet
          case rel =>
            obtain ⟨hB44, hbl, hbr, hba4, hb04, hM44, hE1, hK44⟩ := HD.out
            exact ⟨M1, 2, ⟨#[]⟩, none, 0, 0, p4, nx4, kd4, sy4, false, .ok (noneE, sk ((sk r1).drop [(61 : UInt8), 62].length)), hB44, hbl, hbr, hba4, hb04, hM44, hE1, hK44, Hid.mk ⟨⟨rfl, rfl, rfl, ExV.leaf _ _ _ _ _, tok_sk HT4.out, rfl⟩, X.out, HE.out.1⟩⟩
        · have b95 : (kd4 != 95) = true := by simpa using h95
          obtain ⟨z, g1, g2⟩ := mid_yes H7.out HT4.out HE.out.2.2.2 h95
          have HG1 := Hid.mk g1
          have HG2 := Hid.mk g2
          clear g1 g2 h95
          go_wp2_with fail
          refine (hS k (Nat.le_refl _) g l _ _ M1 z p4 nx4 kd4 sy4 (tok_sk HT4.out) HD.out.1 HD.out.2.2.2.2.2.1 hl HG1.out).mono ?_
          rintro e w5 ⟨o5, s5, A5, n5, c5', p5, nx5, kd5, sy5, bd5, M5, rfl, hk5, hB5, hM5, he5, hG5⟩
          obtain ⟨hB44, hbl, hbr, hba4, hb04, hM44, hE1, hK44⟩ := HD.out
          have hbl5 := hbl.kp hk5 (by simp; omega) he5 hbl.lt
          have hbr5 := hbr.kp hk5 (by simp; omega) he5 hbr.lt
          have hba5 := hba4.kp hk5 (by simp; omega) he5 hba4.lt
          have hb05 := hb04.kp hk5 (by simp; omega) he5 hb04.lt
          have hset : Kp [bl] w5 (((w5.setCell ⟨bl, 0, none⟩ (.int .i64 o5)).setCell ⟨bl, 1, none⟩ (.string s5)).setCell ⟨bl, 2, none⟩ (.slice A5 n5 c5')) := Kp.set3 (Kp.refl [bl] w5) (.inl (by simp))
          obtain ⟨_, x0, x1, x2⟩ := hbl5.three
          have HF := Hid.mk (And.intro hbl5 (And.intro hbr5 (And.intro hba5 (And.intro hb05 (And.intro hset (And.intro hk5 (And.intro hB5 (And.intro hM5 (And.intro he5 hG5)))))))))
          clear hB44 hbl hbr hba4 hb04 hM44 hbl5 hbr5 hba5 hb05 hset hk5 hB5 hM5 he5 hG5 c3
          go_wp2_with fail
          go_meet
          case rel =>
            obtain ⟨hbl5, hbr5, hba5, hb05, hset, hk5, hB5, hM5, he5, hG5⟩ := HF.out
            exact ⟨M5, o5, s5, A5, n5, c5', p5, nx5, kd5, sy5, bd5, z, Box.same hB5 hset (by simp; omega), hbl5.set3, hbr5.same hset (by simp <;> omega), hba5.same hset (by simp; omega), hb05.same hset (by simp; omega), hM5.kp hset (by simpa using hbl5.out), hE1.trans he5 hK44.size, (hK44.trans hk5).inner hset (by simp; omega), Hid.mk ⟨hG5, HG2.out, HE.out.1.ext he5⟩⟩
      case rest =>
        obtain ⟨M5, o5, s5, A5, n5, c5', p5, nx5, kd5, sy5, bd5, z, hB5, hbl, hbr, hba, hb0, hM5, he5, hK5, HC⟩ := hcut
        clear HD c3 x0 x1 x2
        obtain ⟨⟨c0, c1', c2, c3, c4, c5⟩, f1, f2, f3, f4, f5⟩ := PB.cells hB5
        clear c0 c1' c2 c4 f1 f2 f3 f4
        obtain ⟨⟨q0, q1, q2⟩, _, _, _⟩ := hba.three
        obtain ⟨⟨p0, p1', p2'⟩, f0', f1', f2'⟩ := hb0.three
        have HD := Hid.mk (And.intro hB5 (And.intro hbl (And.intro hbr (And.intro hba (And.intro hb0 (And.intro hM5 (And.intro he5 hK5)))))))
        clear hB5 hbl hbr hba hb0 hM5 he5 hK5
        cases bd5 with
        | true =>
          obtain ⟨q, e1, e2⟩ := mid_bad HC.out.1 HC.out.2.1 (.inl rfl)
          have HE := Hid.mk (And.intro e1 e2)
          clear e1 e2
          go_wp2_with fail
          obtain ⟨hB5, hbl, hbr, hba, hb0, hM5, he5, hK5⟩ := HD.out
          have hkb : Kp [g] wc (wc.setCell ⟨g, 5, none⟩ (.bool true)) := (Kp.refl [g] wc).setCell (.inl (by simp)) _
          have hBb : PB (wc.setCell ⟨g, 5, none⟩ (.bool true)) M5 g l p5 nx5 kd5 sy5 true := Box.set hB5 5 _
          have hb05 := hb0.same hkb (by simp; omega)
          have hM6 := hM5.kp hkb (by simpa using hB5.out)
          have hk3 := Kp.set3 (b := w.heap.size) (x' := .int .i64 a.op) (y' := .string (bs a.s)) (z' := .slice A1 a.l.length c1) (Kp.refl [w.heap.size] (wc.setCell ⟨g, 5, none⟩ (.bool true))) (.inl (by simp))
          obtain ⟨⟨r0, r1, r2⟩, _, _, _⟩ := (hb05.set3 (x' := .int .i64 a.op) (y' := .string (bs a.s)) (z' := .slice A1 a.l.length c1)).three
          refine bodyPost_ret (v := .agg #[.int .i64 a.op, .string (bs a.s), .slice A1 a.l.length c1]) (by simp [results, Try.results23, go_sem, r0, r1, r2]) rfl ?_
          rw [HE.out.1]
          exact ⟨_, _, _, _, _, p5, nx5, kd5, sy5, true, M5, rfl, (hK5.trans hkb).set3 (.inr (Nat.le_refl _)), Box.same hBb hk3 (by simp; omega), hM6.kp hk3 (by simpa using hb05.out), he5, HE.out.2, .inl rfl⟩
        | false =>
          by_cases h95 : kd5 = 95
          · have b95 : (kd5 != 95) = false := by rw [h95]; rfl
            obtain ⟨x1, r4, e1, e2, e3, e4, e5, e6, e7⟩ := mid_ok HC.out.1 HC.out.2.1 h95
            subst e1 e2 e3
            have HXA := Hid.mk HC.out.2.2
            have HH := Hid.mk (And.intro e4 (And.intro e5 (And.intro e6 e7)))
            clear e4 e5 e6 e7 h95 HC
            go_wp2_with fail
            refine (adv_calls hl HH.out.2.1 HH.out.2.2.1 HD.out.1).mono ?_
            rintro e w6 ⟨p6, nx6, kd6, sy6, rfl, hk6, hB6, hT6⟩
            obtain ⟨hB5, hbl, hbr, hba, hb0, hM5, he5, hK5⟩ := HD.out
            have hbl6 := hbl.same hk6 (by simp; omega)
            have hbr6 := hbr.same hk6 (by simp; omega)
            have hba6 := hba.same hk6 (by simp; omega)
            have hb06 := hb0.same hk6 (by simp; omega)
            have hM6 := hM5.kp hk6 (by simpa using hB5.out)
            have hK6 := hK5.trans hk6
            have HT6 := Hid.mk hT6
            clear hB5 hbl hbr hba hb0 hM5 hK5 hk6 hT6 HD c3 c5 f5 q0 q1 q2 p0 p1' p2' f0' f1' f2'
            obtain ⟨⟨c0, c1', c2, c3, c4, c5⟩, f1, f2, f3, f4, f5⟩ := PB.cells hB6
            clear c0 c1' c2 c4 c5 f1 f2 f3 f4 f5
            obtain ⟨_, x0, x1', x2⟩ := hbr6.three
            have HD := Hid.mk (And.intro hB6 (And.intro hbl6 (And.intro hbr6 (And.intro hba6 (And.intro hb06 (And.intro hM6 (And.intro he5 hK6)))))))
            clear hB6 hbl6 hbr6 hba6 hb06 hM6 he5 hK6
            by_cases h0 : kd6 = 0 ∨ kd6 = 93
            · have X := Hid.mk (end_no HT6.out HH.out.2.2.2 h0)
              have h00 : kd6 = 0 ∧ (kd6 != 0) = false ∨ (kd6 != 0) = true ∧ (kd6 != 93) = false := by
                rcases h0 with h0 | h0
                · exact .inl ⟨h0, by rw [h0]; rfl⟩
                · exact .inr ⟨by rw [h0]; rfl, by rw [h0]; rfl⟩
              clear h0
              go_upto_region 12 with fail
              go_cut [59] from 48 to 58 (fun v wz => v = .bool false ∧ wz = w6)
              case first =>
                rcases h00 with ⟨hz0, b0⟩ | ⟨b0, b93⟩
                · clear hz0
                  go_wp2_with fail
                  go_meet
                  case rel => exact ⟨rfl, rfl⟩
                · go_wp2_with fail
                  go_meet
                  case rel => exact ⟨rfl, rfl⟩
              case rest =>
              obtain ⟨rfl, rfl⟩ := hcut
              go_upto_if 59 with fail
              go_cut [] from 60 to 61 (fun wz => ∃ M' o s' A n c p nx kd sy bd z, PB wz M' g l p nx kd sy bd ∧ Box wz M' (bl + 1) #[.int .i64 o, .string s', .slice A n c] 25 ∧ Box wz M' bl #[.int .i64 x1.op, .string (bs x1.s), .slice A5 x1.l.length c5'] 25 ∧ Box wz M' ba #[.int .i64 a.op, .string (bs a.s), .slice A1 a.l.length c1] 25 ∧ Box wz M' w.heap.size #[.int .i64 0, .string ⟨#[]⟩, .slice none 0 0] 25 ∧ Mem wz M' ∧ Ext w.heap.size M M' ∧ Kp [g] w wz ∧ Hid (RGh M' l z o s' A n c p nx kd sy bd ∧ Nx z (wF3 a x1) x ∧ ExV M' a A1 c1 ∧ ExV M' x1 A5 c5'))
              case first =>
                go_wp2_with fail
                go_meet
                case rel =>
                  obtain ⟨hB6, hbl6, hbr6, hba6, hb06, hM6, he5, hK6⟩ := HD.out
                  exact ⟨M5, 2, ⟨#[]⟩, none, 0, 0, p6, nx6, kd6, sy6, false, .ok (noneE, sk ((sk r4).drop [(95 : UInt8)].length)), hB6, hbr6, hbl6, hba6, hb06, hM6, he5, hK6, Hid.mk ⟨⟨rfl, rfl, rfl, ExV.leaf _ _ _ _ _, tok_sk HT6.out, rfl⟩, X.out, HXA.out, HH.out.1⟩⟩
              case rest =>
                obtain ⟨M7, o7, s7, A7, n7, c7', p7, nx7, kd7, sy7, bd7, z3, hB7, hbr, hbl, hba, hb0, hM7, he7, hK7, HC3⟩ := hcut
                clear HD c3 x0 x1' x2 h00
                obtain ⟨⟨q0, q1, q2⟩, _, _, _⟩ := hba.three
                obtain ⟨⟨l0, l1, l2⟩, _, _, _⟩ := hbl.three
                obtain ⟨⟨m0, m1, m2⟩, _, _, _⟩ := hbr.three
                obtain ⟨⟨p0, p1', p2'⟩, f0', f1', f2'⟩ := hb0.three
                have hz7 := hbr.lt
                have hz8 := hb0.lt
                have HD := Hid.mk (And.intro hB7 (And.intro hbl (And.intro hbr (And.intro hba (And.intro hb0 (And.intro hM7 (And.intro he7 hK7)))))))
                clear hB7 hbl hbr hba hb0 hM7 he7 hK7
                go_wp2_with fail
                obtain ⟨hB7, hbr, hbl, hba, hb0, hM7, he7, hK7⟩ := HD.out
                have hset : Kp [w.heap.size] wc (((wc.setCell ⟨w.heap.size, 0, none⟩ (.int .i64 14)).setCell ⟨w.heap.size, 1, none⟩ (.string ⟨#[]⟩)).setCell ⟨w.heap.size, 2, none⟩ (.slice (some ⟨wc.heap.size, 0, none⟩) 3 3)) := Kp.set3 (Kp.refl [w.heap.size] wc) (.inl (by simp))
                have hz : (((wc.setCell ⟨w.heap.size, 0, none⟩ (.int .i64 14)).setCell ⟨w.heap.size, 1, none⟩ (.string ⟨#[]⟩)).setCell ⟨w.heap.size, 2, none⟩ (.slice (some ⟨wc.heap.size, 0, none⟩) 3 3)).heap.size = wc.heap.size := by simp [World.setCell]
                have hb9 := hb0.set3 (x' := .int .i64 14) (y' := .string ⟨#[]⟩) (z' := .slice (some ⟨wc.heap.size, 0, none⟩) 3 3)
                have hB9 := Box.same hB7 hset (by simp; omega)
                have hM8 := hM7.kp hset (by simpa using hb0.out)
                generalize (((wc.setCell ⟨w.heap.size, 0, none⟩ (.int .i64 14)).setCell ⟨w.heap.size, 1, none⟩ (.string ⟨#[]⟩)).setCell ⟨w.heap.size, 2, none⟩ (.slice (some ⟨wc.heap.size, 0, none⟩) 3 3)) = w9 at *
                obtain ⟨M8, hx8, hM9, he9, hno⟩ := row3 (t3 := ⟨o7, s7, A7, n7, c7'⟩) (hz ▸ heap_alloc_new w9 _) hM7.new (hM8.alloc _) HC3.out.2.2.1 HC3.out.2.2.2 HC3.out.1 HC3.out.2.1 w.heap.size (by omega)
                obtain ⟨⟨r0, r1, r2⟩, _, _, _⟩ := (hb9.alloc (.cells #[.int .i64 a.op, .string (bs a.s), .slice A1 a.l.length c1, .int .i64 x1.op, .string (bs x1.s), .slice A5 x1.l.length c5', .int .i64 o7, .string s7, .slice A7 n7 c7'] 25)).three
                refine bodyPost_ret (v := .agg #[.int .i64 14, .string ⟨#[]⟩, .slice (some ⟨wc.heap.size, 0, none⟩) 3 3]) (by simp [results, Try.results23, go_sem, r0, r1, r2]) rfl ?_
                exact ⟨_, _, _, _, _, p7, nx7, kd7, sy7, bd7, M8, rfl, (hK7.inner hset (by simp)).alloc _, ⟨(Box.alloc hB9 _).blk, hno _ (by omega) hB7.out⟩, hM9, he7.trans he9 (Nat.le_refl _), hx8⟩
            · have b0 : (kd6 != 0) = true := by simpa using fun e => h0 (.inl e)
              have b93 : (kd6 != 93) = true := by simpa using fun e => h0 (.inr e)
              obtain ⟨z3, g1, g2⟩ := end_yes H7.out HT6.out HH.out.2.2.2 (fun e => h0 (.inl e)) (fun e => h0 (.inr e))
              have HG1 := Hid.mk g1
              have HG2 := Hid.mk g2
              clear g1 g2 h0
              go_upto_if 59 with fail
              go_cut [] from 59 to 61 (fun wz => ∃ M' o s' A n c p nx kd sy bd z, PB wz M' g l p nx kd sy bd ∧ Box wz M' (bl + 1) #[.int .i64 o, .string s', .slice A n c] 25 ∧ Box wz M' bl #[.int .i64 x1.op, .string (bs x1.s), .slice A5 x1.l.length c5'] 25 ∧ Box wz M' ba #[.int .i64 a.op, .string (bs a.s), .slice A1 a.l.length c1] 25 ∧ Box wz M' w.heap.size #[.int .i64 0, .string ⟨#[]⟩, .slice none 0 0] 25 ∧ Mem wz M' ∧ Ext w.heap.size M M' ∧ Kp [g] w wz ∧ Hid (RGh M' l z o s' A n c p nx kd sy bd ∧ Nx z (wF3 a x1) x ∧ ExV M' a A1 c1 ∧ ExV M' x1 A5 c5'))
              case first =>
                go_wp2_with fail
                refine (hS k (Nat.le_refl _) g l _ _ M5 z3 p6 nx6 kd6 sy6 (tok_sk HT6.out) HD.out.1 HD.out.2.2.2.2.2.1 hl HG1.out).mono ?_
                rintro e w7 ⟨o7, s7, A7, n7, c7', p7, nx7, kd7, sy7, bd7, M7, rfl, hk7, hB7, hM7, he7, hG7⟩
                obtain ⟨hB6, hbl6, hbr6, hba6, hb06, hM6, he5, hK6⟩ := HD.out
                have hbl7 := hbl6.kp hk7 (by simp; omega) he7 hbl6.lt
                have hbr7 := hbr6.kp hk7 (by simp; omega) he7 hbr6.lt
                have hba7 := hba6.kp hk7 (by simp; omega) he7 hba6.lt
                have hb07 := hb06.kp hk7 (by simp; omega) he7 hb06.lt
                have hset : Kp [(bl + 1)] w7 (((w7.setCell ⟨(bl + 1), 0, none⟩ (.int .i64 o7)).setCell ⟨(bl + 1), 1, none⟩ (.string s7)).setCell ⟨(bl + 1), 2, none⟩ (.slice A7 n7 c7')) := Kp.set3 (Kp.refl [(bl + 1)] w7) (.inl (by simp))
                obtain ⟨_, x0, x1', x2⟩ := hbr7.three
                have HF := Hid.mk (And.intro hbl7 (And.intro hbr7 (And.intro hba7 (And.intro hb07 (And.intro hset (And.intro hk7 (And.intro hB7 (And.intro hM7 (And.intro he7 hG7)))))))))
                clear hB6 hbl6 hbr6 hba6 hb06 hM6 hbl7 hbr7 hba7 hb07 hset hk7 hB7 hM7 he7 hG7 c3
                go_wp2_with fail
                go_meet
                case rel =>
                  obtain ⟨hbl7, hbr7, hba7, hb07, hset, hk7, hB7, hM7, he7, hG7⟩ := HF.out
                  exact ⟨M7, o7, s7, A7, n7, c7', p7, nx7, kd7, sy7, bd7, z3, Box.same hB7 hset (by simp; omega), hbr7.set3, hbl7.same hset (by simp <;> omega), hba7.same hset (by simp <;> omega), hb07.same hset (by simp; omega), hM7.kp hset (by simpa using hbr7.out), he5.trans he7 hK6.size, (hK6.trans hk7).inner hset (by simp; omega), Hid.mk ⟨hG7, HG2.out, HXA.out.ext he7, HH.out.1.ext he7⟩⟩
              case rest =>
                obtain ⟨M7, o7, s7, A7, n7, c7', p7, nx7, kd7, sy7, bd7, z3, hB7, hbr, hbl, hba, hb0, hM7, he7, hK7, HC3⟩ := hcut
                clear HD c3 x0 x1' x2 b0 b93
                obtain ⟨⟨q0, q1, q2⟩, _, _, _⟩ := hba.three
                obtain ⟨⟨l0, l1, l2⟩, _, _, _⟩ := hbl.three
                obtain ⟨⟨m0, m1, m2⟩, _, _, _⟩ := hbr.three
                obtain ⟨⟨p0, p1', p2'⟩, f0', f1', f2'⟩ := hb0.three
                have hz7 := hbr.lt
                have hz8 := hb0.lt
                have HD := Hid.mk (And.intro hB7 (And.intro hbl (And.intro hbr (And.intro hba (And.intro hb0 (And.intro hM7 (And.intro he7 hK7)))))))
                clear hB7 hbl hbr hba hb0 hM7 he7 hK7
                go_wp2_with fail
                obtain ⟨hB7, hbr, hbl, hba, hb0, hM7, he7, hK7⟩ := HD.out
                have hset : Kp [w.heap.size] wc (((wc.setCell ⟨w.heap.size, 0, none⟩ (.int .i64 14)).setCell ⟨w.heap.size, 1, none⟩ (.string ⟨#[]⟩)).setCell ⟨w.heap.size, 2, none⟩ (.slice (some ⟨wc.heap.size, 0, none⟩) 3 3)) := Kp.set3 (Kp.refl [w.heap.size] wc) (.inl (by simp))
                have hz : (((wc.setCell ⟨w.heap.size, 0, none⟩ (.int .i64 14)).setCell ⟨w.heap.size, 1, none⟩ (.string ⟨#[]⟩)).setCell ⟨w.heap.size, 2, none⟩ (.slice (some ⟨wc.heap.size, 0, none⟩) 3 3)).heap.size = wc.heap.size := by simp [World.setCell]
                have hb9 := hb0.set3 (x' := .int .i64 14) (y' := .string ⟨#[]⟩) (z' := .slice (some ⟨wc.heap.size, 0, none⟩) 3 3)
                have hB9 := Box.same hB7 hset (by simp; omega)
                have hM8 := hM7.kp hset (by simpa using hb0.out)
                generalize (((wc.setCell ⟨w.heap.size, 0, none⟩ (.int .i64 14)).setCell ⟨w.heap.size, 1, none⟩ (.string ⟨#[]⟩)).setCell ⟨w.heap.size, 2, none⟩ (.slice (some ⟨wc.heap.size, 0, none⟩) 3 3)) = w9 at *
                obtain ⟨M8, hx8, hM9, he9, hno⟩ := row3 (t3 := ⟨o7, s7, A7, n7, c7'⟩) (hz ▸ heap_alloc_new w9 _) hM7.new (hM8.alloc _) HC3.out.2.2.1 HC3.out.2.2.2 HC3.out.1 HC3.out.2.1 w.heap.size (by omega)
                obtain ⟨⟨r0, r1, r2⟩, _, _, _⟩ := (hb9.alloc (.cells #[.int .i64 a.op, .string (bs a.s), .slice A1 a.l.length c1, .int .i64 x1.op, .string (bs x1.s), .slice A5 x1.l.length c5', .int .i64 o7, .string s7, .slice A7 n7 c7'] 25)).three
                refine bodyPost_ret (v := .agg #[.int .i64 14, .string ⟨#[]⟩, .slice (some ⟨wc.heap.size, 0, none⟩) 3 3]) (by simp [results, Try.results23, go_sem, r0, r1, r2]) rfl ?_
                exact ⟨_, _, _, _, _, p7, nx7, kd7, sy7, bd7, M8, rfl, (hK7.inner hset (by simp)).alloc _, ⟨(Box.alloc hB9 _).blk, hno _ (by omega) hB7.out⟩, hM9, he7.trans he9 (Nat.le_refl _), hx8⟩
          · have b95 : (kd5 != 95) = true := by simpa using h95
            obtain ⟨q, e1, e2⟩ := mid_bad HC.out.1 HC.out.2.1 (.inr h95)
            have HE := Hid.mk (And.intro e1 e2)
            clear e1 e2 h95
            go_wp2_with fail
            obtain ⟨hB5, hbl, hbr, hba, hb0, hM5, he5, hK5⟩ := HD.out
            have hkb : Kp [g] wc (wc.setCell ⟨g, 5, none⟩ (.bool true)) := (Kp.refl [g] wc).setCell (.inl (by simp)) _
            have hBb : PB (wc.setCell ⟨g, 5, none⟩ (.bool true)) M5 g l p5 nx5 kd5 sy5 true := Box.set hB5 5 _
            have hb05 := hb0.same hkb (by simp; omega)
            have hM6 := hM5.kp hkb (by simpa using hB5.out)
            have hk3 := Kp.set3 (b := w.heap.size) (x' := .int .i64 a.op) (y' := .string (bs a.s)) (z' := .slice A1 a.l.length c1) (Kp.refl [w.heap.size] (wc.setCell ⟨g, 5, none⟩ (.bool true))) (.inl (by simp))
            obtain ⟨⟨r0, r1, r2⟩, _, _, _⟩ := (hb05.set3 (x' := .int .i64 a.op) (y' := .string (bs a.s)) (z' := .slice A1 a.l.length c1)).three
            refine bodyPost_ret (v := .agg #[.int .i64 a.op, .string (bs a.s), .slice A1 a.l.length c1]) (by simp [results, Try.results23, go_sem, r0, r1, r2]) rfl ?_
            rw [HE.out.1]
            exact ⟨_, _, _, _, _, p5, nx5, kd5, sy5, true, M5, rfl, (hK5.trans hkb).set3 (.inr (Nat.le_refl _)), Box.same hBb hk3 (by simp; omega), hM6.kp hk3 (by simpa using hb05.out), he5, HE.out.2, .inl rfl⟩
    · have b2 : (kd1 != 2) = true := by simpa using hk2
      have X := Hid.mk (whole_out HA.out.2.2.2.2.2.2 H2.out (.inr hk2))
      clear hk2
      go_wp2_with fail
      obtain ⟨hba, hb0, hBa, hMa, hKa, hE1, hG1⟩ := HA.out
      have hk3 := Kp.set3 (b := w.heap.size) (x' := .int .i64 o1) (y' := .string s1) (z' := .slice A1 n1 c1) (Kp.refl [w.heap.size] w2) (.inl (by simp))
      obtain ⟨⟨r0, r1, r2⟩, _, _, _⟩ := (hb0.set3 (x' := .int .i64 o1) (y' := .string s1) (z' := .slice A1 n1 c1)).three
      refine bodyPost_ret (v := .agg #[.int .i64 o1, .string s1, .slice A1 n1 c1]) (by simp [results, Try.results23, go_sem, r0, r1, r2]) rfl ?_
      exact ⟨_, _, _, _, _, p1, nx1, kd1, sy1, _, M1, rfl, hKa.set3 (.inr (Nat.le_refl _)), Box.same hBa hk3 (by simp; omega), hMa.kp hk3 (by simpa using hb0.out), hE1, X.out⟩
end Go.Proofs.Ytgdnhlckodhhgaa
