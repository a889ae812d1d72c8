/-
  Plain Lean, no program: the text of an expression.
-/
import Derived.Test.YtgdnhlckodhhgaaGreatJQ
import Derived.Test.YtgdnhlckodhhgaaGreatJA
import Derived.Test.YtgdnhlckodhhgaaGreatJC
import Derived.Test.YtgdnhlckodhhgaaGreatJH
import Derived.Test.YtgdnhlckodhhgaaGreatJB
namespace Go.Proofs.YtgdnhlckodhhgaaGreat
set_option linter.unusedVariables false
set_option linter.unusedSimpArgs false
/-- How loose an operation is. -/
def lvl (op : Int) : Nat :=
  if op = 14 then 0 else if op = 7 then 1 else if op = 5 then 2 else if op = 6 then 3 else if op = 15 then 4 else if op = 13 then 5 else if op = 4 then 6
  else if op = 11 ∨ op = 12 then 7 else if op = 8 ∨ op = 9 ∨ op = 10 then 8 else 9
/-- A text in brackets, if it is looser than a level. -/
def wr (n : Nat) (p : Int × Bs) : Bs := if lvl p.1 < n then 91 :: (p.2 ++ [93]) else p.2
def signT (op : Int) (s : Bs) : Bs :=
  if op = 1 then [46] else if op = 2 then [91, 93] else if op = 3 then [33] else if 1 < s.length then 60 :: (s ++ [62]) else if nameB (s.headD 0) = true then s else 92 :: s
def joinT (sep : Bs) : List Bs → Bs
  | [] => []
  | a :: l => a ++ l.flatMap (fun x => sep ++ x)
def sepT (op : Int) : Bs := if op = 5 then [32, 124, 32] else if op = 6 then [32, 38, 32] else []
def twoT (op : Int) : Bs := if op = 7 then [32, 45, 32] else if op = 15 then [32, 37, 32] else if op = 13 then [32, 47, 32] else []
def markT (op : Int) : Bs := if op = 8 then [42] else if op = 9 then [43] else if op = 10 then [63] else []
def onlyT (a b c : Int × Bs) : Bs := wr 1 a ++ ([32, 61, 62, 32] ++ ((if b.1 = 2 then [] else wr 1 b ++ [32]) ++ (95 :: (if c.1 = 2 then [] else 32 :: wr 1 c))))
def formT (op : Int) (s : Bs) (ks : List (Int × Bs)) : Bs :=
  if op = 14 then onlyT (ks.getD 0 (0, [])) (ks.getD 1 (0, [])) (ks.getD 2 (0, []))
  else if op = 7 ∨ op = 15 ∨ op = 13 then wr (lvl op) (ks.getD 0 (0, [])) ++ (twoT op ++ wr (lvl op + 1) (ks.getD 1 (0, [])))
  else if op = 4 ∨ op = 5 ∨ op = 6 then joinT (sepT op) (ks.map (wr (lvl op + 1)))
  else if op = 11 then 126 :: wr 7 (ks.getD 0 (0, []))
  else if op = 12 then 36 :: wr 7 (ks.getD 0 (0, []))
  else if op = 8 ∨ op = 9 ∨ op = 10 then wr 8 (ks.getD 0 (0, [])) ++ markT op
  else signT op s
mutual
def E.txt : E → Bs | .mk op s l => formT op s (txts l)
def txts : List E → List (Int × Bs) | [] => [] | e :: l => (e.op, e.txt) :: txts l
end
theorem txts_map (l : List E) : txts l = l.map fun e => (e.op, e.txt) := by
  induction l with
  | nil => rfl
  | cons a l ih => simp [txts, ih]
def wt (n : Nat) (e : E) : Bs := wr n (e.op, e.txt)
/-- What a node may have. -/
def okN (op : Int) (s : Bs) (n : Nat) : Prop :=
  (op = 0 ∧ n = 0 ∧ s ≠ [] ∧ s.length ≤ 16 ∧ s.all signB = true) ∨ ((op = 1 ∨ op = 2 ∨ op = 3) ∧ n = 0 ∧ s = []) ∨ ((op = 8 ∨ op = 9 ∨ op = 10 ∨ op = 11 ∨ op = 12) ∧ n = 1 ∧ s = [])
  ∨ ((op = 7 ∨ op = 13 ∨ op = 15) ∧ n = 2 ∧ s = []) ∨ (op = 14 ∧ n = 3 ∧ s = []) ∨ ((op = 4 ∨ op = 5 ∨ op = 6) ∧ 2 ≤ n ∧ s = [])
inductive Okay : E → Prop where
  | mk (op : Int) (s : Bs) (l : List E) (h : okN op s l.length) (hl : ∀ x, x ∈ l → Okay x) : Okay (.mk op s l)

/-! ### Steps of the reader -/
def Rs (t : Task) (x : E × Bs) : Prop := ∃ k, G k t = some (.ok x)
theorem bx_go {α β : Type} {x : Option (Ex α)} {a : α} {f : α → Option (Ex β)} {y : Option (Ex β)} (h : x = some (.ok a)) (h2 : f a = y) : bx x f = y := by rw [h]; exact h2
theorem lf_go {α β : Type} {x : Ex α} {a : α} {f : α → Option (Ex β)} {y : Option (Ex β)} (h : x = .ok a) (h2 : f a = y) : lf x f = y := by rw [h]; exact h2
theorem rs_left {n : Nat} (hn : n = 1 ∨ n = 4 ∨ n = 5) {r r1 : Bs} {a : E} {y : E × Bs} (h1 : Rs (.lv (n + 1) r) (a, r1)) (h2 : Rs (.left n a r1) y) : Rs (.lv n r) y := by
  obtain ⟨k, h1⟩ := h1; obtain ⟨m, h2⟩ := h2
  have e1 := G_more (k' := k + m) (by omega) h1
  have e2 := G_more (k' := k + m) (by omega) h2
  refine ⟨k + m + 1, ?_⟩
  rcases hn with rfl | rfl | rfl <;> (simp only [G]; exact bx_go e1 e2)
theorem rs_all {n : Nat} (hn : n = 2 ∨ n = 3) {r r1 : Bs} {a : E} {y : E × Bs} (h1 : Rs (.lv (n + 1) r) (a, r1)) (h2 : Rs (.all n [a] r1) y) : Rs (.lv n r) y := by
  obtain ⟨k, h1⟩ := h1; obtain ⟨m, h2⟩ := h2
  have e1 := G_more (k' := k + m) (by omega) h1
  have e2 := G_more (k' := k + m) (by omega) h2
  refine ⟨k + m + 1, ?_⟩
  rcases hn with rfl | rfl <;> (simp only [G]; exact bx_go e1 e2)
theorem rs_chain {r r1 : Bs} {a : E} {y : E × Bs} (h1 : Rs (.lv 7 r) (a, r1)) (h2 : Rs (.chain [a] r1) y) : Rs (.lv 6 r) y := by
  obtain ⟨k, h1⟩ := h1; obtain ⟨m, h2⟩ := h2
  have e1 := G_more (k' := k + m) (by omega) h1
  have e2 := G_more (k' := k + m) (by omega) h2
  refine ⟨k + m + 1, ?_⟩
  simp only [G]; exact bx_go e1 e2
theorem rs_plain {r r1 r2 : Bs} {a : E} (h1 : Rs (.lv 1 r) (a, r1)) (h2 : takeT [61, 62] r1 = .ok (false, r2)) : Rs (.lv 0 r) (a, r2) := by
  obtain ⟨k, h1⟩ := h1
  refine ⟨k + 1, ?_⟩
  simp only [G]
  exact bx_go h1 (lf_go h2 rfl)
theorem rs_only {r r1 r2 r3 r4 r5 r6 r7 t u : Bs} {a x y : E} (h1 : Rs (.lv 1 r) (a, r1)) (h2 : takeT [61, 62] r1 = .ok (true, r2)) (h3 : token r2 = .ok (t, r3))
    (h4 : (t = [95] ∧ x = noneE ∧ r4 = r3) ∨ (t ≠ [95] ∧ Rs (.lv 1 r3) (x, r4))) (h5 : takeT [95] r4 = .ok (true, r5)) (h6 : token r5 = .ok (u, r6))
    (h7 : ((u = [] ∨ u = [93]) ∧ y = noneE ∧ r7 = r6) ∨ (¬ (u = [] ∨ u = [93]) ∧ Rs (.lv 1 r6) (y, r7))) : Rs (.lv 0 r) (.mk 14 [] [a, x, y], r7) := by
  obtain ⟨k, h1⟩ := h1
  have k4 : ∃ k, ∀ m, k ≤ m → (if t = [95] then some (.ok (noneE, r3)) else G m (.lv 1 r3)) = some (.ok (x, r4)) := by
    rcases h4 with ⟨e1, e2, e3⟩ | ⟨e1, k, e2⟩
    · exact ⟨0, fun m _ => by rw [if_pos e1, e2, e3]⟩
    · exact ⟨k, fun m hm => by rw [if_neg e1]; exact G_more hm e2⟩
  have k7 : ∃ k, ∀ m, k ≤ m → (if u = [] ∨ u = [93] then some (.ok (noneE, r6)) else G m (.lv 1 r6)) = some (.ok (y, r7)) := by
    rcases h7 with ⟨e1, e2, e3⟩ | ⟨e1, k, e2⟩
    · exact ⟨0, fun m _ => by rw [if_pos e1, e2, e3]⟩
    · exact ⟨k, fun m hm => by rw [if_neg e1]; exact G_more hm e2⟩
  obtain ⟨k4, h4⟩ := k4
  obtain ⟨k7, h7⟩ := k7
  refine ⟨k + k4 + k7 + 1, ?_⟩
  simp only [G]
  exact bx_go (G_more (by omega) h1) (lf_go h2 (lf_go h3 (bx_go (h4 _ (by omega)) (lf_go h5 (lf_go h6 (bx_go (h7 _ (by omega)) rfl))))))
theorem rs_left_stop {n : Nat} {a : E} {r r1 : Bs} (h : takeT (sgn n) r = .ok (false, r1)) : Rs (.left n a r) (a, r1) := ⟨1, by simp only [G]; exact lf_go h rfl⟩
theorem rs_left_go {n : Nat} {a x : E} {r r1 r2 : Bs} {y : E × Bs} (h : takeT (sgn n) r = .ok (true, r1)) (h1 : Rs (.lv (n + 1) r1) (x, r2)) (h2 : Rs (.left n (.mk (opn n) [] [a, x]) r2) y) : Rs (.left n a r) y := by
  obtain ⟨k, h1⟩ := h1; obtain ⟨m, h2⟩ := h2
  have e1 := G_more (k' := k + m) (by omega) h1
  have e2 := G_more (k' := k + m) (by omega) h2
  exact ⟨k + m + 1, by simp only [G]; exact lf_go h (bx_go e1 e2)⟩
theorem rs_all_stop {n : Nat} {acc : List E} {r r1 : Bs} (h : takeT (sgn n) r = .ok (false, r1)) : Rs (.all n acc r) (one (opn n) acc, r1) := ⟨1, by simp only [G]; exact lf_go h rfl⟩
theorem rs_all_go {n : Nat} {acc : List E} {x : E} {r r1 r2 : Bs} {y : E × Bs} (h : takeT (sgn n) r = .ok (true, r1)) (h1 : Rs (.lv (n + 1) r1) (x, r2)) (h2 : Rs (.all n (acc ++ [x]) r2) y) : Rs (.all n acc r) y := by
  obtain ⟨k, h1⟩ := h1; obtain ⟨m, h2⟩ := h2
  have e1 := G_more (k' := k + m) (by omega) h1
  have e2 := G_more (k' := k + m) (by omega) h2
  exact ⟨k + m + 1, by simp only [G]; exact lf_go h (bx_go e1 e2)⟩
theorem rs_chain_stop {acc : List E} {r r1 t : Bs} (h : token r = .ok (t, r1)) (hb : begT t = false) : Rs (.chain acc r) (one 4 acc, r1) :=
  ⟨1, by simp only [G]; exact lf_go h (by dsimp only; rw [if_neg (by simp [hb])])⟩
theorem rs_chain_go {acc : List E} {x : E} {r r1 r2 t : Bs} {y : E × Bs} (h : token r = .ok (t, r1)) (hb : begT t = true) (h1 : Rs (.lv 7 r1) (x, r2)) (h2 : Rs (.chain (acc ++ [x]) r2) y) : Rs (.chain acc r) y := by
  obtain ⟨k, h1⟩ := h1; obtain ⟨m, h2⟩ := h2
  have e1 := G_more (k' := k + m) (by omega) h1
  have e2 := G_more (k' := k + m) (by omega) h2
  exact ⟨k + m + 1, by simp only [G]; exact lf_go h (by dsimp only; rw [if_pos hb]; exact bx_go e1 e2)⟩
theorem rs_7 {r r1 r2 t : Bs} {a : E} {y : E × Bs} (h : token r = .ok (t, r1)) (ht : t ≠ [126]) (ht' : t ≠ [36]) (h1 : Rs (.lv 8 r1) (a, r2)) (h2 : Rs (.behind a r2) y) : Rs (.lv 7 r) y := by
  obtain ⟨k, h1⟩ := h1; obtain ⟨m, h2⟩ := h2
  have e1 := G_more (k' := k + m) (by omega) h1
  have e2 := G_more (k' := k + m) (by omega) h2
  exact ⟨k + m + 1, by simp only [G]; exact lf_go h (by dsimp only; rw [if_neg ht, if_neg ht']; exact bx_go e1 e2)⟩
theorem rs_not {r r1 r2 : Bs} {x : E} (h : token r = .ok ([126], r1)) (h1 : Rs (.lv 7 (r1.drop 1)) (x, r2)) : Rs (.lv 7 r) (.mk 11 [] [x], r2) := by
  obtain ⟨k, h1⟩ := h1
  exact ⟨k + 1, by simp only [G]; exact lf_go h (bx_go h1 rfl)⟩
theorem rs_has {r r1 r2 : Bs} {x : E} (h : token r = .ok ([36], r1)) (h1 : Rs (.lv 7 (r1.drop 1)) (x, r2)) : Rs (.lv 7 r) (.mk 12 [] [x], r2) := by
  obtain ⟨k, h1⟩ := h1
  exact ⟨k + 1, by simp only [G]; exact lf_go h (bx_go h1 rfl)⟩
theorem rs_behind_stop {a : E} {r r1 t : Bs} (h : token r = .ok (t, r1)) (hb : behindOp t = none) : Rs (.behind a r) (a, r1) :=
  ⟨1, by simp only [G]; exact lf_go h (by dsimp only; rw [hb])⟩
theorem rs_behind_go {a : E} {r r1 t : Bs} {o : Int} {y : E × Bs} (h : token r = .ok (t, r1)) (hb : behindOp t = some o) (h1 : Rs (.behind (.mk o [] [a]) (r1.drop 1)) y) : Rs (.behind a r) y := by
  obtain ⟨k, h1⟩ := h1
  exact ⟨k + 1, by simp only [G]; exact lf_go h (by dsimp only; rw [hb]; exact h1)⟩
theorem rs_leaf {r r1 t : Bs} {e : E} (h : token r = .ok (t, r1)) (hb : begT t = true) (hl : leaf t = some e) : Rs (.lv 8 r) (e, r1.drop t.length) :=
  ⟨1, by simp only [G]; exact lf_go h (by dsimp only; rw [if_neg (by simp [hb]), hl])⟩
theorem rs_br {r r1 r2 r3 : Bs} {a : E} (h : token r = .ok ([91], r1)) (h1 : Rs (.lv 0 (r1.drop 1)) (a, r2)) (h2 : takeT [93] r2 = .ok (true, r3)) : Rs (.lv 8 r) (a, r3) := by
  obtain ⟨k, h1⟩ := h1
  refine ⟨k + 1, ?_⟩
  simp only [G]
  refine lf_go h ?_
  dsimp only
  rw [if_neg (by decide)]
  exact bx_go h1 (lf_go h2 rfl)

/-! ### Blanks -/
theorem sk_blank (r : Bs) : sk (32 :: r) = sk r := rfl
theorem sk_cons {c : UInt8} (h : c ≠ 32) (r : Bs) : sk (c :: r) = c :: r := by
  simp [sk, List.dropWhile_cons, h]
theorem takeT_sk (t r : Bs) : takeT t (sk r) = takeT t r := by unfold takeT; rw [sk_sk]
theorem takeT_blank (t r : Bs) : takeT t (32 :: r) = takeT t r := by unfold takeT; rw [sk_blank]
theorem token_sk (r : Bs) : token (sk r) = token r := by unfold token; rw [sk_sk]
theorem token_blank (r : Bs) : token (32 :: r) = token r := by unfold token; rw [sk_blank]
theorem token_of {r u : Bs} (h : tk (sk r) = some u) : token r = .ok (u, sk r) := by unfold token; rw [h]
theorem takeT_of {r t : Bs} (h : tk (sk r) = some t) : takeT t r = .ok (true, (sk r).drop t.length) := by unfold takeT; rw [h]; simp
theorem takeT_not {r t u : Bs} (h : tk (sk r) = some u) (hu : u ≠ t) : takeT t r = .ok (false, sk r) := by unfold takeT; rw [h]; simp [hu]
theorem lv_blank (k : Nat) : ∀ n r, G k (.lv n (32 :: r)) = G k (.lv n r) := by
  induction k with
  | zero => intro n r; simp [G]
  | succ k ih =>
    intro n r
    match n with
    | 0 => simp only [G, ih]
    | 1 => simp only [G, ih]
    | 2 => simp only [G, ih]
    | 3 => simp only [G, ih]
    | 4 => simp only [G, ih]
    | 5 => simp only [G, ih]
    | 6 => simp only [G, ih]
    | 7 => simp only [G, token_blank]
    | n + 8 => simp only [G, token_blank]
theorem rs_blank {n : Nat} {r : Bs} {y : E × Bs} (h : Rs (.lv n r) y) : Rs (.lv n (32 :: r)) y := by
  obtain ⟨k, h⟩ := h
  exact ⟨k, by rw [lv_blank]; exact h⟩

/-! ### Where a level stops -/
def stp (n : Nat) (u : Bs) : Prop := (n = 0 → u = [] ∨ u = [93]) ∧ (n ≤ 1 → u ≠ [45]) ∧ (n ≤ 2 → u ≠ [124]) ∧ (n ≤ 3 → u ≠ [38]) ∧ (n ≤ 4 → u ≠ [37]) ∧ (n ≤ 5 → u ≠ [47]) ∧ (n ≤ 6 → begT u = false) ∧ (n ≤ 8 → behindOp u = none)
instance (n : Nat) (u : Bs) : Decidable (stp n u) := by unfold stp; infer_instance
def Stop (n : Nat) (r : Bs) : Prop := ∃ u, tk (sk r) = some u ∧ stp n u
theorem Stop.up {n m : Nat} {r : Bs} (h : Stop n r) (hm : n ≤ m) : Stop m r := by
  obtain ⟨u, h1, a0, a1, a2, a3, a4, a5, a6, a7⟩ := h
  exact ⟨u, h1, fun h => a0 (by omega), fun h => a1 (by omega), fun h => a2 (by omega), fun h => a3 (by omega), fun h => a4 (by omega), fun h => a5 (by omega), fun h => a6 (by omega), fun h => a7 (by omega)⟩
theorem Stop.of_tk {n : Nat} {r u : Bs} (h : tk (sk r) = some u) (hs : stp n u) : Stop n r := ⟨u, h, hs⟩
theorem down {n : Nat} {r q : Bs} {e : E} (hn : n ≤ 6) (h : Rs (.lv (n + 1) q) (e, sk r)) (hs : Stop n r) : Rs (.lv n q) (e, sk r) := by
  obtain ⟨u, h1, a0, a1, a2, a3, a4, a5, a6, a7⟩ := hs
  have tn : ∀ t, u ≠ t → takeT t (sk r) = .ok (false, sk r) := fun t ht => by rw [takeT_sk]; exact takeT_not h1 ht
  have e1 : n = 0 ∨ n = 1 ∨ n = 2 ∨ n = 3 ∨ n = 4 ∨ n = 5 ∨ n = 6 := by omega
  rcases e1 with rfl | rfl | rfl | rfl | rfl | rfl | rfl
  · refine rs_plain h (tn _ ?_)
    rcases a0 rfl with rfl | rfl <;> decide
  · exact rs_left (.inl rfl) h (rs_left_stop (tn _ (a1 (by omega))))
  · exact rs_all (.inl rfl) h (rs_all_stop (acc := [e]) (tn _ (a2 (by omega))))
  · exact rs_all (.inr rfl) h (rs_all_stop (acc := [e]) (tn _ (a3 (by omega))))
  · exact rs_left (.inr (.inl rfl)) h (rs_left_stop (tn _ (a4 (by omega))))
  · exact rs_left (.inr (.inr rfl)) h (rs_left_stop (tn _ (a5 (by omega))))
  · exact rs_chain h (rs_chain_stop (acc := [e]) (token_of (by rw [sk_sk]; exact h1) |>.trans (by rw [sk_sk])) (a6 (by omega)))
theorem downs_ (d : Nat) : ∀ {n : Nat} {r q : Bs} {e : E}, n + d ≤ 7 → Rs (.lv (n + d) q) (e, sk r) → Stop n r → Rs (.lv n q) (e, sk r) := by
  induction d with
  | zero => intro n r q e _ h _; exact h
  | succ d ih =>
    intro n r q e hd h hs
    refine down (by omega) ?_ hs
    refine ih (by omega) ?_ (hs.up (by omega))
    rw [show n + 1 + d = n + (d + 1) by omega]
    exact h
theorem downs {n m : Nat} {r q : Bs} {e : E} (hm : m ≤ 7) (hn : n ≤ m) (h : Rs (.lv m q) (e, sk r)) (hs : Stop n r) : Rs (.lv n q) (e, sk r) := by
  obtain ⟨d, rfl⟩ : ∃ d, m = n + d := ⟨m - n, by omega⟩
  exact downs_ d hm h hs

/-! ### Tokens -/
theorem tkt_single {c : UInt8} {r : Bs} (h1 : c ≠ 61) (h2 : c ≠ 91) (h : nameB c = true ∨ c ∈ marks) : tk (c :: r) = some [c] := by
  simp only [tk]
  rw [if_neg (by rintro (h | h) <;> (cases r <;> simp_all)), if_pos h]
theorem tkt_open {c : UInt8} {r : Bs} (h : c ≠ 93) : tk (91 :: c :: r) = some [91] := by
  simp only [tk]
  rw [if_neg (by rintro (h | h) <;> simp_all), if_pos (.inr (by decide))]
theorem tkt_none (r : Bs) : tk (91 :: 93 :: r) = some [91, 93] := by
  simp only [tk]
  rw [if_pos (.inr rfl)]; rfl
theorem tkt_arrow (r : Bs) : tk (61 :: 62 :: r) = some [61, 62] := by
  simp only [tk]
  rw [if_pos (.inl rfl)]; rfl
theorem tkt_esc {c : UInt8} {r : Bs} (h1 : signB c = true) (h2 : nameB c = false) : tk (92 :: c :: r) = some [92, c] := by
  simp only [tk]
  rw [if_neg (by rintro (h | h) <;> simp_all), if_neg (by rintro (h | h) <;> revert h <;> decide), if_pos (by simp [h1, h2])]
  rfl
theorem run_of {s r : Bs} (hs : s.all signB = true) : run (s ++ 62 :: r) = s.length := by
  induction s with
  | nil => have h : signB 62 = false := by decide
           simp [run, List.takeWhile_cons, h]
  | cons a s ih =>
    rw [List.all_cons, Bool.and_eq_true] at hs
    have := ih hs.2
    simp only [run] at this ⊢
    rw [List.cons_append, List.takeWhile_cons, if_pos hs.1, List.length_cons, List.length_cons, this]
theorem tkt_long {s r : Bs} (hs : s.all signB = true) (h1 : 2 ≤ s.length) (h2 : s.length ≤ 16) : tk (60 :: (s ++ 62 :: r)) = some (60 :: (s ++ [62])) := by
  have hr := run_of (r := r) hs
  simp only [tk]
  rw [if_neg (by rintro (h | h) <;> simp_all), if_neg (by rintro (h | h) <;> revert h <;> decide), if_neg (by rintro ⟨h, _⟩; revert h; decide), if_pos]
  · rw [hr]
    congr 1
    show 60 :: List.take (s.length + 1) (s ++ 62 :: r) = _
    rw [List.take_append]
    simp [List.take_of_length_le]
  · rw [hr]
    exact ⟨by simp, h1, h2, by rw [List.drop_left]; rfl, by simp⟩
theorem sk_93 (r : Bs) : tk (sk (93 :: r)) = some [93] := by
  rw [sk_cons (by decide)]; exact tkt_single (by decide) (by decide) (.inr (by decide))
theorem stop_93 (n : Nat) (r : Bs) : Stop n (93 :: r) := Stop.up (n := 0) (.of_tk (sk_93 r) (by decide)) (by omega)
end Go.Proofs.YtgdnhlckodhhgaaGreat

/-
  Plain Lean, no program: the text of an expression is read as it.
-/
namespace Go.Proofs.YtgdnhlckodhhgaaGreat
set_option linter.unusedVariables false
set_option linter.unusedSimpArgs false
theorem wt_ge {n : Nat} {e : E} (h : n ≤ lvl e.op) : wt n e = e.txt := by unfold wt wr; exact if_neg (by show ¬ lvl e.op < n; omega)
theorem wt_lt {n : Nat} {e : E} (h : lvl e.op < n) : wt n e = 91 :: (e.txt ++ [93]) := by unfold wt wr; rw [if_pos h]
/-- What the reader does with an expression's text. -/
structure Rdbl (e : E) : Prop where
  head : ∃ c t, e.txt = c :: t ∧ c ≠ 32 ∧ c ≠ 93
  first : ∀ r, ∃ u, tk (e.txt ++ r) = some u ∧ begT u = true ∧ (8 ≤ lvl e.op → u ≠ [126] ∧ u ≠ [36])
  read : ∀ r, Stop (min (lvl e.op) 7) r → Rs (.lv (min (lvl e.op) 7) (e.txt ++ r)) (e, sk r)
  behind : 8 ≤ lvl e.op → ∀ r y, Rs (.behind e r) y → Rs (.lv 7 (e.txt ++ r)) y
  left : ∀ n, (n = 1 ∨ n = 4 ∨ n = 5) → lvl e.op = n → ∀ r y, Stop (n + 1) r → Rs (.left n e (sk r)) y → Rs (.lv n (e.txt ++ r)) y
theorem Rdbl.whead {e : E} (h : Rdbl e) (n : Nat) : ∃ c t, wt n e = c :: t ∧ c ≠ 32 ∧ c ≠ 93 := by
  by_cases hn : lvl e.op < n
  · exact ⟨91, _, wt_lt hn, by decide, by decide⟩
  · rw [wt_ge (by omega)]; exact h.head
theorem Rdbl.wfirst {e : E} (h : Rdbl e) (n : Nat) (r : Bs) : ∃ u, tk (wt n e ++ r) = some u ∧ begT u = true ∧ (8 ≤ n → u ≠ [126] ∧ u ≠ [36]) := by
  by_cases hn : lvl e.op < n
  · obtain ⟨c, t, h1, h2, h3⟩ := h.head
    refine ⟨[91], ?_, by decide, fun _ => ⟨by decide, by decide⟩⟩
    rw [wt_lt hn, h1]
    exact tkt_open h3
  · rw [wt_ge (by omega)]
    obtain ⟨u, h1, h2, h3⟩ := h.first r
    exact ⟨u, h1, h2, fun h => h3 (by omega)⟩
theorem Rdbl.wsk {e : E} (h : Rdbl e) (n : Nat) (r : Bs) : sk (wt n e ++ r) = wt n e ++ r := by
  obtain ⟨c, t, h1, h2, _⟩ := h.whead n
  rw [h1]
  exact sk_cons h2 _
theorem Rdbl.wtoken {e : E} (h : Rdbl e) (n : Nat) (r : Bs) : ∃ u, token (wt n e ++ r) = .ok (u, wt n e ++ r) ∧ begT u = true ∧ (8 ≤ n → u ≠ [126] ∧ u ≠ [36]) := by
  obtain ⟨u, h1, h2, h3⟩ := h.wfirst n r
  refine ⟨u, ?_, h2, h3⟩
  have := token_of (r := wt n e ++ r) (u := u) (by rw [h.wsk]; exact h1)
  rw [h.wsk] at this
  exact this
/-- In brackets. -/
theorem Rdbl.bracket {e : E} (h : Rdbl e) (r : Bs) : Rs (.lv 8 (91 :: (e.txt ++ [93]) ++ r)) (e, r) := by
  obtain ⟨c, t, h1, h2, h3⟩ := h.head
  have ht : token (91 :: (e.txt ++ [93]) ++ r) = .ok ([91], 91 :: (e.txt ++ [93]) ++ r) := by
    have : tk (sk (91 :: (e.txt ++ [93]) ++ r)) = some [91] := by
      rw [List.cons_append, sk_cons (by decide), h1]
      exact tkt_open h3
    have := token_of this
    rw [this, List.cons_append, sk_cons (by decide)]
  have hr := h.read (93 :: r) (stop_93 _ _)
  have hr0 := downs (n := 0) (by omega) (by omega) hr (stop_93 _ _)
  rw [sk_cons (by decide)] at hr0
  refine rs_br ht (r2 := 93 :: r) ?_ ?_
  · simpa using hr0
  · have := takeT_of (sk_93 r)
    rw [this, sk_cons (by decide)]; rfl
theorem Rdbl.bracket7 {e : E} (h : Rdbl e) (r : Bs) (y : E × Bs) (hy : Rs (.behind e r) y) : Rs (.lv 7 (91 :: (e.txt ++ [93]) ++ r)) y := by
  obtain ⟨c, t, h1, h2, h3⟩ := h.head
  have ht : token (91 :: (e.txt ++ [93]) ++ r) = .ok ([91], 91 :: (e.txt ++ [93]) ++ r) := by
    have : tk (sk (91 :: (e.txt ++ [93]) ++ r)) = some [91] := by
      rw [List.cons_append, sk_cons (by decide), h1]
      exact tkt_open h3
    have := token_of this
    rw [this, List.cons_append, sk_cons (by decide)]
  exact rs_7 ht (by decide) (by decide) (h.bracket r) hy
theorem behind_stop {e : E} {r : Bs} {n : Nat} (hn : n ≤ 8) (hs : Stop n r) : Rs (.behind e r) (e, sk r) := by
  obtain ⟨u, h1, a0, a1, a2, a3, a4, a5, a6, a7⟩ := hs
  exact rs_behind_stop (token_of h1) (a7 hn)
/-- Read at a level. -/
theorem Rdbl.wread {e : E} (h : Rdbl e) {n : Nat} (hn : n ≤ 7) (r : Bs) (hs : Stop n r) : Rs (.lv n (wt n e ++ r)) (e, sk r) := by
  by_cases hl : lvl e.op < n
  · rw [wt_lt hl]
    exact downs (by omega) hn (h.bracket7 r _ (behind_stop (by omega) hs)) hs
  · rw [wt_ge (by omega)]
    exact downs (by omega) (by omega) (h.read r (hs.up (by omega))) hs
theorem Rdbl.wbehind {e : E} (h : Rdbl e) (r : Bs) (y : E × Bs) (hy : Rs (.behind e r) y) : Rs (.lv 7 (wt 8 e ++ r)) y := by
  by_cases hl : lvl e.op < 8
  · rw [wt_lt hl]; exact h.bracket7 r y hy
  · rw [wt_ge (by omega)]; exact h.behind (by omega) r y hy
theorem Rdbl.wleft {e : E} (h : Rdbl e) {n : Nat} (hn : n = 1 ∨ n = 4 ∨ n = 5) (r : Bs) (y : E × Bs) (hs : Stop (n + 1) r) (hy : Rs (.left n e (sk r)) y) : Rs (.lv n (wt n e ++ r)) y := by
  by_cases hl : lvl e.op = n
  · rw [wt_ge (by omega)]; exact h.left n hn hl r y hs hy
  · have : wt n e = wt (n + 1) e := by
      by_cases hl' : lvl e.op < n
      · rw [wt_lt hl', wt_lt (by omega)]
      · rw [wt_ge (by omega), wt_ge (by omega)]
    rw [this]
    exact rs_left hn (h.wread (by omega) r hs) hy

/-! ### A token alone -/
theorem good_leaf {op : Int} {s : Bs} (hlv : lvl op = 9) {u : Bs} (ht : (E.mk op s []).txt = u) (htk : ∀ r, tk (u ++ r) = some u) (hb : begT u = true) (hl : leaf u = some (.mk op s [])) (hh : ∃ c t, u = c :: t ∧ c ≠ 32 ∧ c ≠ 93) (h6 : u ≠ [126]) (h3 : u ≠ [36]) : Rdbl (.mk op s []) := by
  have hsk : ∀ r, sk (u ++ r) = u ++ r := by
    obtain ⟨c, t, h1, h2, _⟩ := hh
    intro r; rw [h1]; exact sk_cons h2 _
  have htoken : ∀ r, token (u ++ r) = .ok (u, u ++ r) := fun r => by
    have := token_of (r := u ++ r) (u := u) (by rw [hsk]; exact htk r)
    rw [hsk] at this; exact this
  have h7 : ∀ r y, Rs (.behind (.mk op s []) r) y → Rs (.lv 7 (u ++ r)) y := fun r y hy => by
    refine rs_7 (htoken r) h6 h3 (rs_leaf (htoken r) hb hl) ?_
    rw [List.drop_left]; exact hy
  have e9 : lvl (E.mk op s []).op = 9 := hlv
  refine ⟨by rw [ht]; exact hh, fun r => ?_, fun r hs => ?_, fun _ r y hy => ?_, fun n hn he => ?_⟩
  · rw [ht]; exact ⟨u, htk r, hb, fun _ => ⟨h6, h3⟩⟩
  · rw [e9] at hs ⊢
    rw [ht]
    exact h7 r _ (behind_stop (n := 7) (by omega) hs)
  · rw [ht]; exact h7 r y hy
  · omega
theorem name_head {c : UInt8} (h : nameB c = true) : c ≠ 32 ∧ c ≠ 93 ∧ c ≠ 61 ∧ c ≠ 91 ∧ c ≠ 46 ∧ c ≠ 33 ∧ c ≠ 92 ∧ c ≠ 60 ∧ c ≠ 126 ∧ c ≠ 36 := by
  refine ⟨?_, ?_, ?_, ?_, ?_, ?_, ?_, ?_, ?_, ?_⟩ <;> (rintro rfl; revert h; decide)
theorem good_sym {s : Bs} (h0 : s ≠ []) (h1 : s.length ≤ 16) (h2 : s.all signB = true) : Rdbl (.mk 0 s []) := by
  by_cases hl : 1 < s.length
  · have hu : (E.mk 0 s []).txt = 60 :: (s ++ [62]) := by
      show signT 0 s = _
      unfold signT
      simp [hl]
    refine good_leaf (by decide) hu (fun r => ?_) ?_ ?_ ⟨60, _, rfl, by decide, by decide⟩ (by simp) (by simp)
    · have := tkt_long (r := r) h2 (by omega) h1
      simpa using this
    · have : (s ++ [62]).isEmpty = false := by cases s <;> rfl
      simp [begT]
    · unfold leaf
      rw [if_neg (by simp), if_neg (by simp), if_neg (by simp), if_neg (by simp), if_neg (by simp), if_pos (by simp)]
      simp
  · obtain ⟨c, rfl⟩ : ∃ c, s = [c] := by
      match s, h0, hl with
      | [c], _, _ => exact ⟨c, rfl⟩
      | a :: b :: l, _, hl => simp at hl
    have hc : signB c = true := by simpa using h2
    by_cases hn : nameB c = true
    · have hu : (E.mk 0 [c] []).txt = [c] := by
        show signT 0 [c] = _
        unfold signT
        simp [hn]
      obtain ⟨a1, a2, a3, a4, a5, a6, a7, a8, a9, a10⟩ := name_head hn
      refine good_leaf (by decide) hu (fun r => ?_) ?_ ?_ ⟨c, _, rfl, a1, a2⟩ (by simpa using a9) (by simpa using a10)
      · exact tkt_single a3 a4 (.inl hn)
      · simp [begT, hn]
      · unfold leaf
        rw [if_neg (by simpa using a5), if_neg (by simp), if_neg (by simpa using a6), if_neg (by simpa using a4), if_neg (by simpa using a7), if_neg (by simpa using a8)]
    · have hn' : nameB c = false := by simpa using hn
      have hu : (E.mk 0 [c] []).txt = [92, c] := by
        show signT 0 [c] = _
        unfold signT
        simp [hn']
      refine good_leaf (by decide) hu (fun r => ?_) ?_ ?_ ⟨92, _, rfl, by decide, by decide⟩ (by simp) (by simp)
      · exact tkt_esc hc hn'
      · simp [begT]
      · unfold leaf
        simp
/-! ### Two by two -/
theorem two_tk {n : Nat} (hn : n = 1 ∨ n = 4 ∨ n = 5) (r : Bs) : tk (sk (twoT (opn n) ++ r)) = some (sgn n) ∧ (sk (twoT (opn n) ++ r)).drop (sgn n).length = 32 :: r := by
  rcases hn with rfl | rfl | rfl <;> exact ⟨rfl, rfl⟩
theorem stp_sgn {n : Nat} (hn : 1 ≤ n) (hn' : n ≤ 5) : stp (n + 1) (sgn n) := by
  have : n = 1 ∨ n = 2 ∨ n = 3 ∨ n = 4 ∨ n = 5 := by omega
  rcases this with rfl | rfl | rfl | rfl | rfl <;> decide
theorem lvl_opn {n : Nat} (hn : n = 1 ∨ n = 4 ∨ n = 5) : lvl (opn n) = n := by
  rcases hn with rfl | rfl | rfl <;> decide
theorem good_two {n : Nat} (hn : n = 1 ∨ n = 4 ∨ n = 5) {a b : E} (ha : Rdbl a) (hb : Rdbl b) : Rdbl (.mk (opn n) [] [a, b]) := by
  have hl : lvl (E.mk (opn n) [] [a, b]).op = n := lvl_opn hn
  have ht : (E.mk (opn n) [] [a, b]).txt = wt n a ++ (twoT (opn n) ++ wt (n + 1) b) := by
    rcases hn with rfl | rfl | rfl <;> rfl
  have left : ∀ r y, Stop (n + 1) r → Rs (.left n (.mk (opn n) [] [a, b]) (sk r)) y → Rs (.lv n ((E.mk (opn n) [] [a, b]).txt ++ r)) y := by
    intro r y hs hy
    obtain ⟨t1, t2⟩ := two_tk hn (wt (n + 1) b ++ r)
    rw [ht, List.append_assoc, List.append_assoc]
    refine ha.wleft hn _ y (.of_tk t1 (stp_sgn (by omega) (by omega))) ?_
    refine rs_left_go (x := b) (r2 := sk r) ?_ (rs_blank (hb.wread (by omega) r hs)) hy
    rw [takeT_sk, takeT_of t1, t2]
  refine ⟨?_, fun r => ?_, fun r hs => ?_, fun h => by omega, fun m hm he r y hs hy => ?_⟩
  · obtain ⟨c, t, h1, h2, h3⟩ := ha.whead n
    rw [ht, h1]
    exact ⟨c, _, rfl, h2, h3⟩
  · obtain ⟨u, h1, h2, _⟩ := ha.wfirst n (twoT (opn n) ++ wt (n + 1) b ++ r)
    rw [ht, List.append_assoc]
    exact ⟨u, h1, h2, fun h => by omega⟩
  · have e7 : min (lvl (E.mk (opn n) [] [a, b]).op) 7 = n := by omega
    rw [e7] at hs ⊢
    refine left r _ (hs.up (by omega)) (rs_left_stop ?_)
    obtain ⟨u, h1, a0, a1, a2, a3, a4, a5, a6, a7⟩ := hs
    rw [takeT_sk]
    refine takeT_not h1 ?_
    rcases hn with rfl | rfl | rfl
    · exact a1 (by omega)
    · exact a4 (by omega)
    · exact a5 (by omega)
  · rw [hl] at he; subst he
    exact left r y hs hy
/-! ### Many -/
def opa : Nat → Int | 2 => 5 | 3 => 6 | _ => 4
theorem sep_tk {n : Nat} (hn : n = 2 ∨ n = 3) (r : Bs) : tk (sk (sepT (opa n) ++ r)) = some (sgn n) ∧ (sk (sepT (opa n) ++ r)).drop (sgn n).length = 32 :: r := by
  rcases hn with rfl | rfl <;> exact ⟨rfl, rfl⟩
def restT (n : Nat) (l : List E) : Bs := l.flatMap fun x => sepT (opa n) ++ wt (n + 1) x
theorem rest_cons (n : Nat) (x : E) (l : List E) : restT n (x :: l) = sepT (opa n) ++ (wt (n + 1) x ++ restT n l) := by simp [restT]
theorem rest_stop {n : Nat} (hn : n = 2 ∨ n = 3 ∨ n = 6) {l : List E} (hg : ∀ x, x ∈ l → Rdbl x) {r : Bs} (hs : Stop n r) : Stop (n + 1) (restT n l ++ r) := by
  cases l with
  | nil => exact hs.up (by omega)
  | cons x l =>
    rw [rest_cons, List.append_assoc, List.append_assoc]
    rcases hn with rfl | rfl | rfl
    · exact .of_tk (sep_tk (.inl rfl) _).1 (stp_sgn (by omega) (by omega))
    · exact .of_tk (sep_tk (.inr rfl) _).1 (stp_sgn (by omega) (by omega))
    · have hx := hg x (by simp)
      obtain ⟨u, h1, h2, h3⟩ := hx.wfirst 7 (restT 6 l ++ r)
      refine .of_tk (u := u) ?_ ⟨fun h => by omega, fun h => by omega, fun h => by omega, fun h => by omega, fun h => by omega, fun h => by omega, fun h => by omega, fun _ => ?_⟩
      · show tk (sk (wt 7 x ++ (restT 6 l ++ r))) = some u
        rw [hx.wsk]; exact h1
      · unfold behindOp
        rw [if_neg (by rintro rfl; revert h2; decide), if_neg (by rintro rfl; revert h2; decide), if_neg (by rintro rfl; revert h2; decide)]
theorem all_loop {n : Nat} (hn : n = 2 ∨ n = 3) {r : Bs} (hs : Stop n r) : ∀ (l acc : List E), (∀ x, x ∈ l → Rdbl x) → Rs (.all n acc (sk (restT n l ++ r))) (one (opa n) (acc ++ l), sk r) := by
  have e0 : opn n = opa n := by rcases hn with rfl | rfl <;> rfl
  intro l
  induction l with
  | nil =>
    intro acc _
    rw [List.append_nil, ← e0]
    refine rs_all_stop ?_
    show takeT (sgn n) (sk r) = _
    rw [takeT_sk]
    obtain ⟨u, h1, a0, a1, a2, a3, a4, a5, a6, a7⟩ := hs
    refine takeT_not h1 ?_
    rcases hn with rfl | rfl
    · exact a2 (by omega)
    · exact a3 (by omega)
  | cons x l ih =>
    intro acc hg
    obtain ⟨t1, t2⟩ := sep_tk hn (wt (n + 1) x ++ (restT n l ++ r))
    rw [rest_cons, List.append_assoc, List.append_assoc]
    refine rs_all_go (x := x) (r2 := sk (restT n l ++ r)) ?_ (rs_blank ((hg x (by simp)).wread (by omega) _ (rest_stop (by omega) (fun z hz => hg z (by simp [hz])) hs))) ?_
    · rw [takeT_sk, takeT_of t1, t2]
    · have := ih (acc ++ [x]) (fun z hz => hg z (by simp [hz]))
      rw [List.append_assoc] at this
      exact this
theorem chain_loop {r : Bs} (hs : Stop 6 r) : ∀ (l acc : List E), (∀ x, x ∈ l → Rdbl x) → Rs (.chain acc (sk (restT 6 l ++ r))) (one 4 (acc ++ l), sk r) := by
  intro l
  induction l with
  | nil =>
    intro acc _
    rw [List.append_nil]
    obtain ⟨u, h1, a0, a1, a2, a3, a4, a5, a6, a7⟩ := hs
    exact rs_chain_stop (t := u) ((token_sk r).trans (token_of h1)) (a6 (by omega))
  | cons x l ih =>
    intro acc hg
    have hx := hg x (by simp)
    have e1 : restT 6 (x :: l) ++ r = wt 7 x ++ (restT 6 l ++ r) := by rw [rest_cons, List.append_assoc, List.append_assoc]; rfl
    obtain ⟨u, h1, h2, _⟩ := hx.wtoken 7 (restT 6 l ++ r)
    rw [e1, hx.wsk]
    refine rs_chain_go (x := x) h1 h2 (hx.wread (by omega) _ (rest_stop (by omega) (fun z hz => hg z (by simp [hz])) hs)) ?_
    have := ih (acc ++ [x]) (fun z hz => hg z (by simp [hz]))
    rw [List.append_assoc] at this
    exact this
theorem good_many {n : Nat} (hn : n = 2 ∨ n = 3 ∨ n = 6) {x y : E} {l : List E} (hg : ∀ z, z ∈ x :: y :: l → Rdbl z) : Rdbl (.mk (opa n) [] (x :: y :: l)) := by
  have hl : lvl (E.mk (opa n) [] (x :: y :: l)).op = n := by rcases hn with rfl | rfl | rfl <;> rfl
  have hx := hg x (by simp)
  have ht : (E.mk (opa n) [] (x :: y :: l)).txt = wt (n + 1) x ++ restT n (y :: l) := by
    have e : ∀ m : List E, ((txts m).map (wr (n + 1))).flatMap (fun z => sepT (opa n) ++ z) = restT n m := fun m => by
      rw [txts_map, List.map_map, List.flatMap_map]; rfl
    have : (E.mk (opa n) [] (x :: y :: l)).txt = joinT (sepT (opa n)) ((txts (x :: y :: l)).map (wr (n + 1))) := by
      rcases hn with rfl | rfl | rfl <;> rfl
    rw [this, ← e]
    rfl
  refine ⟨?_, fun r => ?_, fun r hs => ?_, fun h => by omega, fun m hm he => by omega⟩
  · obtain ⟨c, t, h1, h2, h3⟩ := hx.whead (n + 1)
    rw [ht, h1]
    exact ⟨c, _, rfl, h2, h3⟩
  · obtain ⟨u, h1, h2, _⟩ := hx.wfirst (n + 1) (restT n (y :: l) ++ r)
    rw [ht, List.append_assoc]
    exact ⟨u, h1, h2, fun h => by omega⟩
  · have e7 : min (lvl (E.mk (opa n) [] (x :: y :: l)).op) 7 = n := by omega
    rw [e7] at hs ⊢
    rw [ht, List.append_assoc]
    have h1 := hx.wread (n := n + 1) (by omega) _ (rest_stop hn (l := y :: l) (fun z hz => hg z (by simp at hz ⊢; exact .inr hz)) hs)
    rcases hn with rfl | rfl | rfl
    · exact rs_all (.inl rfl) h1 (all_loop (.inl rfl) hs (y :: l) [x] (fun z hz => hg z (by simp at hz ⊢; exact .inr hz)))
    · exact rs_all (.inr rfl) h1 (all_loop (.inr rfl) hs (y :: l) [x] (fun z hz => hg z (by simp at hz ⊢; exact .inr hz)))
    · exact rs_chain h1 (chain_loop hs (y :: l) [x] (fun z hz => hg z (by simp at hz ⊢; exact .inr hz)))
/-! ### Ahead, behind -/
theorem good_ahead {op : Int} {c : UInt8} (h : (op = 11 ∧ c = 126) ∨ (op = 12 ∧ c = 36)) {a : E} (ha : Rdbl a) : Rdbl (.mk op [] [a]) := by
  have hl : lvl (E.mk op [] [a]).op = 7 := by rcases h with ⟨rfl, _⟩ | ⟨rfl, _⟩ <;> rfl
  have ht : (E.mk op [] [a]).txt = c :: wt 7 a := by rcases h with ⟨rfl, rfl⟩ | ⟨rfl, rfl⟩ <;> rfl
  have hc : ∀ r, tk (c :: r) = some [c] := by rcases h with ⟨_, rfl⟩ | ⟨_, rfl⟩ <;> exact fun r => tkt_single (by decide) (by decide) (.inr (by decide))
  have h32 : c ≠ 32 ∧ c ≠ 93 ∧ begT [c] = true := by rcases h with ⟨_, rfl⟩ | ⟨_, rfl⟩ <;> decide
  refine ⟨?_, fun r => ?_, fun r hs => ?_, fun h => by omega, fun m hm he => by omega⟩
  · rw [ht]; exact ⟨c, _, rfl, h32.1, h32.2.1⟩
  · rw [ht]; exact ⟨[c], hc _, h32.2.2, fun h => by omega⟩
  · have e7 : min (lvl (E.mk op [] [a]).op) 7 = 7 := by omega
    rw [e7] at hs ⊢
    rw [ht, List.cons_append]
    have htok : token (c :: (wt 7 a ++ r)) = .ok ([c], c :: (wt 7 a ++ r)) := by
      have := token_of (r := c :: (wt 7 a ++ r)) (u := [c]) (by rw [sk_cons h32.1]; exact hc _)
      rw [sk_cons h32.1] at this; exact this
    have hr := ha.wread (n := 7) (by omega) r hs
    rcases h with ⟨rfl, rfl⟩ | ⟨rfl, rfl⟩
    · exact rs_not htok hr
    · exact rs_has htok hr
theorem good_behind {op : Int} {c : UInt8} (h : (op = 8 ∧ c = 42) ∨ (op = 9 ∧ c = 43) ∨ (op = 10 ∧ c = 63)) {a : E} (ha : Rdbl a) : Rdbl (.mk op [] [a]) := by
  have hl : lvl (E.mk op [] [a]).op = 8 := by rcases h with ⟨rfl, _⟩ | ⟨rfl, _⟩ | ⟨rfl, _⟩ <;> rfl
  have ht : (E.mk op [] [a]).txt = wt 8 a ++ [c] := by rcases h with ⟨rfl, rfl⟩ | ⟨rfl, rfl⟩ | ⟨rfl, rfl⟩ <;> rfl
  have hc : ∀ r, tk (c :: r) = some [c] := by rcases h with ⟨_, rfl⟩ | ⟨_, rfl⟩ | ⟨_, rfl⟩ <;> exact fun r => tkt_single (by decide) (by decide) (.inr (by decide))
  have h32 : c ≠ 32 ∧ behindOp [c] = some op := by rcases h with ⟨rfl, rfl⟩ | ⟨rfl, rfl⟩ | ⟨rfl, rfl⟩ <;> decide
  have hb : ∀ r y, Rs (.behind (.mk op [] [a]) r) y → Rs (.lv 7 ((E.mk op [] [a]).txt ++ r)) y := fun r y hy => by
    rw [ht, List.append_assoc]
    refine ha.wbehind _ y ?_
    have htok : token (c :: r) = .ok ([c], c :: r) := by
      have := token_of (r := c :: r) (u := [c]) (by rw [sk_cons h32.1]; exact hc _)
      rw [sk_cons h32.1] at this; exact this
    exact rs_behind_go htok h32.2 hy
  refine ⟨?_, fun r => ?_, fun r hs => ?_, fun _ => hb, fun m hm he => by omega⟩
  · obtain ⟨d, t, h1, h2, h3⟩ := ha.whead 8
    rw [ht, h1]; exact ⟨d, _, rfl, h2, h3⟩
  · obtain ⟨u, h1, h2, h3⟩ := ha.wfirst 8 ([c] ++ r)
    rw [ht, List.append_assoc]; exact ⟨u, h1, h2, fun _ => h3 (by omega)⟩
  · have e7 : min (lvl (E.mk op [] [a]).op) 7 = 7 := by omega
    rw [e7] at hs ⊢
    exact hb r _ (behind_stop (by omega) hs)
/-! ### Only -/
theorem okay_none {e : E} (h : Okay e) (ho : e.op = 2) : e = noneE := by
  cases h with
  | mk op s l h hl =>
    have ho' : op = 2 := ho
    subst ho'
    unfold okN at h
    have : l.length = 0 ∧ s = [] := by
      rcases h with h | h | h | h | h | h
      · omega
      · exact ⟨h.2.1, h.2.2⟩
      · omega
      · omega
      · omega
      · omega
    rw [List.length_eq_zero_iff.1 this.1, this.2]; rfl
theorem good_only {a b c : E} (ha : Rdbl a) (hb : Rdbl b) (hc : Rdbl c) (ob : Okay b) (oc : Okay c) : Rdbl (.mk 14 [] [a, b, c]) := by
  have ht : (E.mk 14 [] [a, b, c]).txt = wt 1 a ++ ([32, 61, 62, 32] ++ ((if b.op = 2 then [] else wt 1 b ++ [32]) ++ (95 :: (if c.op = 2 then [] else 32 :: wt 1 c)))) := rfl
  refine ⟨?_, fun r => ?_, fun r hs => ?_, fun h => by have e0 : lvl (E.mk 14 [] [a, b, c]).op = 0 := rfl; omega, fun m hm he => by have e0 : lvl (E.mk 14 [] [a, b, c]).op = 0 := rfl; omega⟩
  · obtain ⟨d, t, h1, h2, h3⟩ := ha.whead 1
    rw [ht, h1]; exact ⟨d, _, rfl, h2, h3⟩
  · obtain ⟨u, h1, h2, h3⟩ := ha.wfirst 1 ([32, 61, 62, 32] ++ ((if b.op = 2 then [] else wt 1 b ++ [32]) ++ (95 :: (if c.op = 2 then [] else 32 :: wt 1 c))) ++ r)
    rw [ht, List.append_assoc]; exact ⟨u, h1, h2, fun h => by have e0 : lvl (E.mk 14 [] [a, b, c]).op = 0 := rfl; omega⟩
  · replace hs : Stop 0 r := hs
    show Rs (.lv 0 _) _
    obtain ⟨u, hu, hu0, _⟩ := id hs
    have hu0 := hu0 rfl
    generalize hY : (if c.op = 2 then ([] : Bs) else 32 :: wt 1 c) ++ r = Y
    have e1 : (E.mk 14 [] [a, b, c]).txt ++ r = wt 1 a ++ (32 :: 61 :: 62 :: 32 :: ((if b.op = 2 then [] else wt 1 b ++ [32]) ++ (95 :: Y))) := by
      rw [ht, ← hY]; simp
    rw [e1]
    generalize hX : (if b.op = 2 then ([] : Bs) else wt 1 b ++ [32]) ++ (95 :: Y) = X
    have hA := ha.wread (n := 1) (by omega) (32 :: 61 :: 62 :: 32 :: X) (.of_tk (u := [61, 62]) (tkt_arrow _) (by decide))
    have t95 : tk (95 :: Y) = some [95] := tkt_single (by decide) (by decide) (.inr (by decide))
    have s95 : sk (95 :: Y) = 95 :: Y := sk_cons (by decide) _
    have h5 : takeT [95] (95 :: Y) = .ok (true, Y) := by
      have := takeT_of (r := 95 :: Y) (t := [95]) (by rw [s95]; exact t95)
      rw [this, s95]; rfl
    have h2 : takeT [61, 62] (sk (32 :: 61 :: 62 :: 32 :: X)) = .ok (true, 32 :: X) := by
      rw [takeT_sk]; exact takeT_of (tkt_arrow _)
    have h34 : ∃ t r3, token (32 :: X) = .ok (t, r3) ∧ ((t = [95] ∧ b = noneE ∧ 95 :: Y = r3) ∨ (t ≠ [95] ∧ Rs (.lv 1 r3) (b, 95 :: Y))) := by
      by_cases h2 : b.op = 2
      · rw [if_pos h2] at hX
        rw [← hX]
        refine ⟨[95], 95 :: Y, ?_, .inl ⟨rfl, okay_none ob h2, rfl⟩⟩
        have := token_of (r := 95 :: Y) (u := [95]) (by rw [s95]; exact t95)
        rw [token_blank]
        rw [s95] at this
        exact this
      · rw [if_neg h2] at hX
        rw [← hX]
        obtain ⟨t, k1, k2, _⟩ := hb.wtoken 1 (32 :: 95 :: Y)
        have e3 : wt 1 b ++ [32] ++ 95 :: Y = wt 1 b ++ (32 :: 95 :: Y) := by simp
        rw [e3]
        refine ⟨t, _, by rw [token_blank]; exact k1, .inr ⟨by rintro rfl; revert k2; decide, ?_⟩⟩
        have := hb.wread (n := 1) (by omega) (32 :: 95 :: Y) (.of_tk (u := [95]) (by rw [sk_blank, s95]; exact t95) (by decide))
        rw [sk_blank, s95] at this
        exact this
    have h67 : ∃ t r6, token Y = .ok (t, r6) ∧ (((t = [] ∨ t = [93]) ∧ c = noneE ∧ sk r = r6) ∨ (¬ (t = [] ∨ t = [93]) ∧ Rs (.lv 1 r6) (c, sk r))) := by
      by_cases h2 : c.op = 2
      · rw [if_pos h2] at hY
        rw [← hY]
        exact ⟨u, sk r, token_of hu, .inl ⟨hu0, okay_none oc h2, rfl⟩⟩
      · rw [if_neg h2] at hY
        rw [← hY]
        obtain ⟨t, k1, k2, _⟩ := hc.wtoken 1 r
        refine ⟨t, _, by rw [List.cons_append, token_blank]; exact k1, .inr ⟨by rintro (rfl | rfl) <;> (revert k2; decide), hc.wread (by omega) r (hs.up (by omega))⟩⟩
    obtain ⟨t, r3, k1, k2⟩ := h34
    obtain ⟨t', r6, k3, k4⟩ := h67
    exact rs_only hA h2 k1 k2 h5 k3 k4
theorem good_of {e : E} (h : Okay e) : Rdbl e := by
  induction h with
  | mk op s l h hl ih =>
    rcases h with ⟨rfl, h1, h2, h3, h4⟩ | ⟨h1, h2, rfl⟩ | ⟨h1, h2, rfl⟩ | ⟨h1, h2, rfl⟩ | ⟨rfl, h2, rfl⟩ | ⟨h1, h2, rfl⟩
    · rw [List.length_eq_zero_iff.1 h1]; exact good_sym h2 h3 h4
    · rw [List.length_eq_zero_iff.1 h2]
      rcases h1 with rfl | rfl | rfl
      · exact good_leaf (u := [46]) (by decide) rfl (fun r => tkt_single (by decide) (by decide) (.inr (by decide))) (by decide) rfl ⟨46, [], rfl, by decide, by decide⟩ (by decide) (by decide)
      · exact good_leaf (u := [91, 93]) (by decide) rfl (fun r => tkt_none r) (by decide) rfl ⟨91, [93], rfl, by decide, by decide⟩ (by decide) (by decide)
      · exact good_leaf (u := [33]) (by decide) rfl (fun r => tkt_single (by decide) (by decide) (.inr (by decide))) (by decide) rfl ⟨33, [], rfl, by decide, by decide⟩ (by decide) (by decide)
    · match l, h2, ih with
      | [a], _, ih =>
        have ha := ih a (by simp)
        rcases h1 with rfl | rfl | rfl | rfl | rfl
        · exact good_behind (c := 42) (.inl ⟨rfl, rfl⟩) ha
        · exact good_behind (c := 43) (.inr (.inl ⟨rfl, rfl⟩)) ha
        · exact good_behind (c := 63) (.inr (.inr ⟨rfl, rfl⟩)) ha
        · exact good_ahead (c := 126) (.inl ⟨rfl, rfl⟩) ha
        · exact good_ahead (c := 36) (.inr ⟨rfl, rfl⟩) ha
    · match l, h2, ih with
      | [a, b], _, ih =>
        have ha := ih a (by simp)
        have hb := ih b (by simp)
        rcases h1 with rfl | rfl | rfl
        · exact good_two (n := 1) (.inl rfl) ha hb
        · exact good_two (n := 5) (.inr (.inr rfl)) ha hb
        · exact good_two (n := 4) (.inr (.inl rfl)) ha hb
    · match l, h2, ih, hl with
      | [a, b, c], _, ih, hl => exact good_only (ih a (by simp)) (ih b (by simp)) (ih c (by simp)) (hl b (by simp)) (hl c (by simp))
    · match l, h2, ih with
      | x :: y :: l, _, ih =>
        rcases h1 with rfl | rfl | rfl
        · exact good_many (n := 6) (.inr (.inr rfl)) ih
        · exact good_many (n := 2) (.inl rfl) ih
        · exact good_many (n := 3) (.inr (.inl rfl)) ih
/-- The text of an expression is read as it, to its end. -/
theorem round_trip {e : E} (h : Okay e) : ∃ k, G k (.lv 0 e.txt) = some (.ok (e, [])) := by
  have := (good_of h).wread (n := 0) (by omega) [] (.of_tk (u := []) rfl (by decide))
  rw [wt_ge (by omega), List.append_nil] at this
  exact this
end Go.Proofs.YtgdnhlckodhhgaaGreat

/-
  How loose an operation is, and the text of a thing without nodes, by the program.
-/
namespace Go.Proofs.YtgdnhlckodhhgaaGreat
open Go.RowKit
set_option linter.unusedVariables false
set_option linter.unusedSimpArgs false
set_option maxRecDepth 100000 in
set_option maxHeartbeats 2000000 in
theorem level_calls (op : Int) (w : World) :
    Calls Tryz.prog 38 #[.int .i64 op] w fun e w' => e = .returned (.int .i64 (lvl op : Nat)) ∧ w = w' := by
  rcases (by omega : op = 14 ∨ op = 7 ∨ op = 5 ∨ op = 6 ∨ op = 15 ∨ op = 13 ∨ op = 4 ∨ op = 11 ∨ op = 12 ∨ op = 8 ∨ op = 9 ∨ op = 10 ∨ (op ≠ 14 ∧ op ≠ 7 ∧ op ≠ 5 ∧ op ≠ 6 ∧ op ≠ 15 ∧ op ≠ 13 ∧ op ≠ 4 ∧ op ≠ 11 ∧ op ≠ 12 ∧ op ≠ 8 ∧ op ≠ 9 ∧ op ≠ 10)) with rfl | rfl | rfl | rfl | rfl | rfl | rfl | rfl | rfl | rfl | rfl | rfl | h
  case inr.inr.inr.inr.inr.inr.inr.inr.inr.inr.inr.inr =>
    have e14 : (op == 14) = false := by rw [beq_eq_false_iff_ne]; omega
    have e7 : (op == 7) = false := by rw [beq_eq_false_iff_ne]; omega
    have e5 : (op == 5) = false := by rw [beq_eq_false_iff_ne]; omega
    have e6 : (op == 6) = false := by rw [beq_eq_false_iff_ne]; omega
    have e15 : (op == 15) = false := by rw [beq_eq_false_iff_ne]; omega
    have e13 : (op == 13) = false := by rw [beq_eq_false_iff_ne]; omega
    have e4 : (op == 4) = false := by rw [beq_eq_false_iff_ne]; omega
    have e11 : (op == 11) = false := by rw [beq_eq_false_iff_ne]; omega
    have e12 : (op == 12) = false := by rw [beq_eq_false_iff_ne]; omega
    have e8 : (op == 8) = false := by rw [beq_eq_false_iff_ne]; omega
    have e9 : (op == 9) = false := by rw [beq_eq_false_iff_ne]; omega
    have e10 : (op == 10) = false := by rw [beq_eq_false_iff_ne]; omega
    have HE : Hid (lvl op = 9) := Hid.mk (by unfold lvl; rw [if_neg (by omega), if_neg (by omega), if_neg (by omega), if_neg (by omega), if_neg (by omega), if_neg (by omega), if_neg (by omega), if_neg (by omega), if_neg (by omega)])
    clear h
    go_enter Tryz.func38, Tryz.ntmps38
    go_wp2_with fail
    go_ret
    exact ⟨ret_int (by rw [HE.out]; rfl), rfl⟩
  all_goals
    go_enter Tryz.func38, Tryz.ntmps38
    go_wp2_with fail
    go_ret
    exact ⟨rfl, rfl⟩
set_option maxRecDepth 100000 in
set_option maxHeartbeats 2000000 in
theorem sign_calls (op : Int) (s : Bs) (A : Option Addr) (n c : Nat) (h : op = 0 ∧ s ≠ [] ∨ op = 1 ∨ op = 2 ∨ op = 3) (hs : s.length ≤ 1099511627776) (w : World) :
    Calls Tryz.prog 40 #[.agg #[.int .i64 op, .string (bs s), .slice A n c]] w fun e w' => e = .returned (.string (bs (signT op s))) ∧ Kp [] w w' := by
  have hz := bs_size s
  rcases h with ⟨rfl, h0⟩ | rfl | rfl | rfl
  · have HN := Hid.mk (isName_calls)
    by_cases hl : 1 < s.length
    · have HS := Hid.mk (show bs [60] ++ bs s ++ bs [62] = bs (signT 0 s) by rw [bs_cat, bs_cat]; congr 1; unfold signT; simp [hl])
      have hl' : (1 : Int) < (s.length : Int) := by omega
      clear h0
      go_enter Tryz.func40, Tryz.ntmps40
      go_wp2_with fail
      go_ret
      exact ⟨by rw [← HS.out]; rfl, (Kp.refl _ _).alloc _⟩
    · obtain ⟨c0, rfl⟩ : ∃ c0, s = [c0] := by
        match s, h0, hl with
        | [c0], _, _ => exact ⟨c0, rfl⟩
        | a :: b :: l, _, hl => simp at hl
      have hg : (bs [c0])[0]'(by rw [bs_size]; simp) = c0 := bs_getI (s := [c0]) (j := 0) (by simp)
      clear hl h0 hz hs
      have hz : (bs [c0]).size = 1 := bs_size [c0]
      by_cases hn : nameB c0 = true
      · have HS := Hid.mk (show signT 0 [c0] = [c0] by unfold signT; simp [hn])
        have HB := Hid.mk (show isNameI (c0.toNat : Int) = true from hn)
        clear hn
        go_enter Tryz.func40, Tryz.ntmps40
        go_wp2_with fail
        refine (HN.out _ _).mono ?_
        rintro en w2 ⟨rfl, rfl⟩
        have hb := HB.out
        go_wp2_with fail
        go_ret
        exact ⟨by rw [HS.out]; rfl, (Kp.refl _ _).alloc _⟩
      · have hn' : nameB c0 = false := by simpa using hn
        have HS := Hid.mk (show bs [92] ++ bs [c0] = bs (signT 0 [c0]) by rw [bs_cat]; congr 1; unfold signT; simp [hn'])
        have HB := Hid.mk (show isNameI (c0.toNat : Int) = false from hn')
        clear hn hn'
        go_enter Tryz.func40, Tryz.ntmps40
        go_wp2_with fail
        refine (HN.out _ _).mono ?_
        rintro en w2 ⟨rfl, rfl⟩
        have hb := HB.out
        go_wp2_with fail
        go_ret
        exact ⟨by rw [← HS.out]; rfl, (Kp.refl _ _).alloc _⟩
  all_goals
    go_enter Tryz.func40, Tryz.ntmps40
    go_wp2_with fail
    go_ret
    exact ⟨rfl, (Kp.refl _ _).alloc _⟩
end Go.Proofs.YtgdnhlckodhhgaaGreat

/-
  Plain: what is right is okay; its text is short, and read as it.
-/
namespace Go.Proofs.YtgdnhlckodhhgaaGreat
set_option linter.unusedVariables false
set_option linter.unusedSimpArgs false
theorem okN_of {op : Int} {s : Bs} {n : Nat} (h : fits op s n = true) : okN op s n := by
  unfold fits at h
  simp only [Bool.and_eq_true, decide_eq_true_eq] at h
  obtain ⟨⟨⟨⟨h0, h1⟩, h2⟩, h3⟩, h4⟩ := h
  have hop : op = 0 ∨ op = 1 ∨ op = 2 ∨ op = 3 ∨ op = 4 ∨ op = 5 ∨ op = 6 ∨ op = 7 ∨ op = 8 ∨ op = 9 ∨ op = 10 ∨ op = 11 ∨ op = 12 ∨ op = 13 ∨ op = 14 ∨ op = 15 := by omega
  have hs : op ≠ 0 → s = [] := fun hne => by rw [if_neg hne] at h4; simpa using h4
  unfold okN
  rcases hop with rfl | rfl | rfl | rfl | rfl | rfl | rfl | rfl | rfl | rfl | rfl | rfl | rfl | rfl | rfl | rfl
  · rw [if_pos rfl] at h4
    have hn : n = 0 := by simp [kidsR] at h3; omega
    left
    have hw : wordErr [s] = 0 := by simpa using h4
    unfold wordErr at hw
    split at hw
    · cases hw
    · split at hw
      · rename_i h5 h6
        simp [rsym, long] at h6
        exact ⟨rfl, hn, h6.1.2, h6.2, by simp [List.all_eq_true]; exact h6.1.1⟩
      · cases hw
  all_goals (have hs' := hs (by decide); simp [kidsR] at h2 h3; simp [hs']; try omega)
theorem okay_of (e : E) (h : e.right = true) : Okay e := by
  have key : ∀ n (e : E), e.size ≤ n → e.right = true → Okay e := by
    intro n
    induction n with
    | zero => intro e he; have := size_pos e; omega
    | succ n ih =>
      intro e he h
      rw [E.right_eq, Bool.and_eq_true] at h
      rw [← E.eta e]
      refine Okay.mk _ _ _ (okN_of h.1) (fun x hx => ih x ?_ (List.all_eq_true.1 h.2 x hx))
      have h1 := size_mem hx
      rw [E.size_eq] at he
      omega
  exact key _ e (Nat.le_refl _) h
theorem wt_len (n : Nat) (e : E) : (wt n e).length ≤ e.txt.length + 2 := by
  unfold wt wr
  split <;> simp
theorem sum_len (n : Nat) (sep : Bs) (hs : sep.length ≤ 3) (l : List E) (h : ∀ x, x ∈ l → x.txt.length + 5 ≤ 25 * x.size) : ((l.map (wt n)).flatMap fun x => sep ++ x).length ≤ 25 * sizes l := by
  induction l with
  | nil => simp
  | cons a l ih =>
    have h1 := wt_len n a
    have h2 := h a (by simp)
    have h3 := ih (fun x hx => h x (by simp [hx]))
    simp only [List.map_cons, List.flatMap_cons, List.length_append, sizes] at *
    omega
theorem txt_len {e : E} (h : Okay e) : e.txt.length + 5 ≤ 25 * e.size := by
  induction h with
  | mk op s l h hl ih =>
    rcases h with ⟨rfl, h1, h2, h3, h4⟩ | ⟨h1, h2, rfl⟩ | ⟨h1, h2, rfl⟩ | ⟨h1, h2, rfl⟩ | ⟨rfl, h2, rfl⟩ | ⟨h1, h2, rfl⟩
    · rw [List.length_eq_zero_iff.1 h1]
      have : (E.mk 0 s []).txt.length ≤ s.length + 2 := by
        show (signT 0 s).length ≤ _
        unfold signT
        rw [if_neg (by decide), if_neg (by decide), if_neg (by decide)]
        split
        · simp
        · split <;> simp
      simp [E.size, sizes]
      omega
    · rw [List.length_eq_zero_iff.1 h2]
      rcases h1 with rfl | rfl | rfl <;> (simp [E.size, sizes, E.txt, formT, signT])
    · match l, h2, ih with
      | [a], _, ih =>
        have ha := ih a (by simp)
        have h8 := wt_len 8 a
        have h7 := wt_len 7 a
        have hz : (E.mk op [] [a]).size = 1 + a.size := by simp [E.size, sizes]
        rw [hz]
        rcases h1 with rfl | rfl | rfl | rfl | rfl
        · have : (E.mk 8 [] [a]).txt = wt 8 a ++ [42] := rfl
          rw [this]; simp; omega
        · have : (E.mk 9 [] [a]).txt = wt 8 a ++ [43] := rfl
          rw [this]; simp; omega
        · have : (E.mk 10 [] [a]).txt = wt 8 a ++ [63] := rfl
          rw [this]; simp; omega
        · have : (E.mk 11 [] [a]).txt = 126 :: wt 7 a := rfl
          rw [this]; simp; omega
        · have : (E.mk 12 [] [a]).txt = 36 :: wt 7 a := rfl
          rw [this]; simp; omega
    · match l, h2, ih with
      | [a, b], _, ih =>
        have ha := ih a (by simp)
        have hb := ih b (by simp)
        have hz : (E.mk op [] [a, b]).size = 1 + (a.size + b.size) := by simp [E.size, sizes]
        have k : ∀ n, (wt n a).length ≤ a.txt.length + 2 ∧ (wt n b).length ≤ b.txt.length + 2 := fun n => ⟨wt_len n a, wt_len n b⟩
        rw [hz]
        have k1 := k 1; have k2 := k 2; have k4 := k 4; have k5 := k 5; have k6 := k 6
        rcases h1 with rfl | rfl | rfl
        · have : (E.mk 7 [] [a, b]).txt = wt 1 a ++ ([32, 45, 32] ++ wt 2 b) := rfl
          rw [this]; simp; omega
        · have : (E.mk 13 [] [a, b]).txt = wt 5 a ++ ([32, 47, 32] ++ wt 6 b) := rfl
          rw [this]; simp; omega
        · have : (E.mk 15 [] [a, b]).txt = wt 4 a ++ ([32, 37, 32] ++ wt 5 b) := rfl
          rw [this]; simp; omega
    · match l, h2, ih with
      | [a, b, c], _, ih =>
        have ha := ih a (by simp)
        have hb := ih b (by simp)
        have hc := ih c (by simp)
        have hz : (E.mk 14 [] [a, b, c]).size = 1 + (a.size + (b.size + c.size)) := by simp [E.size, sizes]
        have h1 := wt_len 1 a
        have h2 := wt_len 1 b
        have h3 := wt_len 1 c
        have ht : (E.mk 14 [] [a, b, c]).txt = wt 1 a ++ ([32, 61, 62, 32] ++ ((if b.op = 2 then [] else wt 1 b ++ [32]) ++ (95 :: (if c.op = 2 then [] else 32 :: wt 1 c)))) := rfl
        rw [hz, ht]
        split <;> split <;> simp <;> omega
    · have hz : (E.mk op [] l).size = 1 + sizes l := by simp [E.size]
      have key : ∀ n (sep : Bs), sep.length ≤ 3 → (joinT sep (l.map (wt n))).length ≤ 25 * sizes l := by
        intro n sep hs
        have h5 := sum_len n sep hs l ih
        refine Nat.le_trans ?_ h5
        cases l with
        | nil => simp [joinT]
        | cons a l => simp [joinT]
      have e : ∀ n, (txts l).map (wr n) = l.map (wt n) := fun n => by rw [txts_map, List.map_map]; rfl
      rw [hz]
      rcases h1 with rfl | rfl | rfl
      · have : (E.mk 4 [] l).txt = joinT [] ((txts l).map (wr 7)) := rfl
        rw [this, e]; have := key 7 [] (by simp); omega
      · have : (E.mk 5 [] l).txt = joinT [32, 124, 32] ((txts l).map (wr 3)) := rfl
        rw [this, e]; have := key 3 [32, 124, 32] (by simp); omega
      · have : (E.mk 6 [] l).txt = joinT [32, 38, 32] ((txts l).map (wr 4)) := rfl
        rw [this, e]; have := key 4 [32, 38, 32] (by simp); omega
end Go.Proofs.YtgdnhlckodhhgaaGreat

/-
  The text of an expression, by the program: what stands ahead.
-/
namespace Go.Proofs.YtgdnhlckodhhgaaGreat
open Go.RowKit
set_option linter.unusedVariables false
set_option linter.unusedSimpArgs false
/-- An expression's text is what the program writes. -/
def TX (e : E) : Prop := ∀ (A : Option Addr) (c least : Nat) (w : World) (M : Heap), ExV M e A c → Mem w M → least ≤ 9 →
  Calls Tryz.prog 15 #[.agg #[.int .i64 e.op, .string (bs e.s), .slice A e.l.length c], .int .i64 (least : Nat)] w fun en w' => en = .returned (.string (bs (wt least e))) ∧ Kp [] w w'
/-- The cells of a node's first, second and third node. -/
theorem kid_cells {M : Heap} {e : E} {b o c : Nat} (h : ExV M e (some ⟨b, o, none⟩) c) (j : Nat) (hj : j < e.l.length) : ∃ A' c', ExV M e.l[j] A' c' ∧ ∀ w, Mem w M → w.cell? ⟨b, o + j * 3, none⟩ = some (.int .i64 e.l[j].op) ∧ w.cell? ⟨b, o + j * 3 + 1, none⟩ = some (.string (bs e.l[j].s)) ∧ w.cell? ⟨b, o + j * 3 + 2, none⟩ = some (.slice A' e.l[j].l.length c') := by
  obtain ⟨A', c', h0, h1, h2, hx⟩ := h.at_ j hj
  exact ⟨A', c', hx, fun w hM => ⟨hM.cell h0, hM.cell h1, hM.cell h2⟩⟩
set_option maxRecDepth 100000 in
set_option maxHeartbeats 2000000 in
theorem text_not {op : Int} {d : UInt8} (hop : op = 11 ∧ d = 126 ∨ op = 12 ∧ d = 36) {a : E} (ha : TX a) (hz : a.txt.length ≤ 100000) (A : Option Addr) (c least : Nat) (w : World) (M : Heap) (he : ExV M (.mk op [] [a]) A c) (hM : Mem w M) (hl : least ≤ 7) :
    Calls Tryz.prog 15 #[.agg #[.int .i64 op, .string (bs []), .slice A 1 c], .int .i64 (least : Nat)] w fun en w' => en = .returned (.string (bs (E.mk op [] [a]).txt)) ∧ Kp [] w w' := by
  obtain ⟨ba, oa, rfl⟩ := he.place (by simp [E.l])
  obtain ⟨A', c', hxa, hc⟩ := kid_cells he 0 (by simp [E.l])
  replace hxa : ExV M a A' c' := hxa
  obtain ⟨q0, q1, q2⟩ := hc _ (hM.alloc (.cells #[.int .i64 op, .string (bs []), .slice (some ⟨ba, oa, none⟩) 1 c] 24))
  replace q0 : _ = some (Value.int .i64 a.op) := q0
  replace q1 : _ = some (Value.string (bs a.s)) := q1
  replace q2 : _ = some (Value.slice A' a.l.length c') := q2
  rw [show oa + 0 * 3 = oa by omega] at q0 q1 q2
  have HA := Hid.mk (ha A' c' 7 _ M hxa (hM.alloc (.cells #[.int .i64 op, .string (bs []), .slice (some ⟨ba, oa, none⟩) 1 c] 24)) (by omega))
  have HL : Hid (∀ w, Calls Tryz.prog 38 #[.int .i64 op] w fun e w' => e = .returned (.int .i64 7) ∧ w = w') := Hid.mk (fun w => by rcases hop with ⟨rfl, _⟩ | ⟨rfl, _⟩ <;> exact level_calls _ w)
  have hlt : ¬ (7 : Int) < (least : Int) := by omega
  have htl : (wt 7 a).length ≤ 100002 := by have := wt_len 7 a; omega
  have HS := Hid.mk (show bs [d] ++ bs (wt 7 a) = bs (E.mk op [] [a]).txt by rw [bs_cat]; rcases hop with ⟨rfl, rfl⟩ | ⟨rfl, rfl⟩ <;> rfl)
  have hsz := bs_size (wt 7 a)
  generalize wt 7 a = t at *
  have HK := Hid.mk ((Kp.refl [] w).alloc (.cells #[.int .i64 op, .string (bs []), .slice (some ⟨ba, oa, none⟩) 1 c] 24))
  clear ha hc hxa hM he
  rcases hop with ⟨rfl, rfl⟩ | ⟨rfl, rfl⟩
  all_goals
    go_enter Tryz.func15, Tryz.ntmps15
    go_wp2_with fail
    refine (HL.out _).mono ?_
    rintro en w2 ⟨rfl, rfl⟩
    go_wp2_with fail
    refine HA.out.mono ?_
    rintro en w3 ⟨rfl, hk3⟩
    have HZ := Hid.mk (HK.out.trans hk3)
    clear hk3
    go_wp2_with fail
    go_ret
    exact ⟨by rw [← HS.out]; rfl, HZ.out⟩
end Go.Proofs.YtgdnhlckodhhgaaGreat

/-
  Looking up in a map that was just made.
-/
namespace Go.Proofs.YtgdnhlckodhhgaaGreat
open Go.RowKit
set_option linter.unusedVariables false
set_option linter.unusedSimpArgs false
section
variable {P : Program}
/-- A plain key that is there. -/
theorem run_look_lit {mty kt et : TypeId} {d : TypeDesc} (W : World) (r : Nat) (es : Array MapEntry) (clock : Nat) (key val : Value) (hb : W.heap[r]? = some (.map es clock)) (hm : P.underlying mty = some (.map kt et)) (hk : P.underlying kt = some d) (hkey : MapKept.IsKey d key)
    (hes : ∀ x ∈ es.toList, MapKept.IsKey d x.key) (hex : ∃ x ∈ es.toList, x.key = key) (hval : ∀ x ∈ es.toList, x.key = key → x.val = val) :
    (Instr.lookup mty (.map (some r)) key false).run P W = .ok val W := by
  have hc : (Instr.checkKey false 10000 kt key).run P W = .ok () W := MapKept.run_checkKey hk hkey false 9999
  have hc' : ∀ b, (Instr.checkKey b 10000 kt key).run P W = .ok () W := fun b => MapKept.run_checkKey hk hkey b 9999
  rcases MapKept.findNow_spec hkey es.toList 0 hes with ⟨h, h2⟩ | ⟨j, e, h1, h2, h3⟩
  · obtain ⟨x, hx, he⟩ := hex
    exact absurd he (h2 x hx)
  · have hv := hval e (List.mem_of_getElem? h2) h3
    simp only [Instr.lookup, Sem.run_bind, run_underlying hm, MapKept.run_getObj_map hb, hc', MapKept.run_findKey hk h1, Result.andThen, Sem.run_pure, hv]
    rfl
/-- A plain key that is not there. -/
theorem run_look_not {mty kt et : TypeId} {d : TypeDesc} (W : World) (r : Nat) (es : Array MapEntry) (clock : Nat) (key zero : Value) (hb : W.heap[r]? = some (.map es clock)) (hm : P.underlying mty = some (.map kt et)) (hk : P.underlying kt = some d) (hkey : MapKept.IsKey d key)
    (hes : ∀ x ∈ es.toList, MapKept.IsKey d x.key) (hex : ∀ x ∈ es.toList, x.key ≠ key) (hz : (zeroValue et).run P W = .ok zero W) :
    (Instr.lookup mty (.map (some r)) key false).run P W = .ok zero W := by
  have hc' : ∀ b, (Instr.checkKey b 10000 kt key).run P W = .ok () W := fun b => MapKept.run_checkKey hk hkey b 9999
  rcases MapKept.findNow_spec hkey es.toList 0 hes with ⟨h, h2⟩ | ⟨j, e, h1, h2, h3⟩
  · simp only [Instr.lookup, Sem.run_bind, run_underlying hm, MapKept.run_getObj_map hb, hc', MapKept.run_findKey hk h, Result.andThen, Sem.run_pure, hz]
    rfl
  · exact absurd h3 (hex e (List.mem_of_getElem? h2))
end
def twos : Array MapEntry := #[{ key := .int .i64 7, val := .string ⟨#[32, 45, 32]⟩, born := 0 }, { key := .int .i64 15, val := .string ⟨#[32, 37, 32]⟩, born := 1 }, { key := .int .i64 13, val := .string ⟨#[32, 47, 32]⟩, born := 2 }]
theorem twos_made (W : World) :
    (Instr.mapUpdate 68 (.map (some W.heap.size)) (.int .i64 7) (.string ⟨#[32, 45, 32]⟩)).run Tryz.prog (W.alloc (.map #[] 0)) = .ok () (W.alloc (.map #[{ key := .int .i64 7, val := .string ⟨#[32, 45, 32]⟩, born := 0 }] 1)) ∧
    (Instr.mapUpdate 68 (.map (some W.heap.size)) (.int .i64 15) (.string ⟨#[32, 37, 32]⟩)).run Tryz.prog (W.alloc (.map #[{ key := .int .i64 7, val := .string ⟨#[32, 45, 32]⟩, born := 0 }] 1)) = .ok () (W.alloc (.map #[{ key := .int .i64 7, val := .string ⟨#[32, 45, 32]⟩, born := 0 }, { key := .int .i64 15, val := .string ⟨#[32, 37, 32]⟩, born := 1 }] 2)) ∧
    (Instr.mapUpdate 68 (.map (some W.heap.size)) (.int .i64 13) (.string ⟨#[32, 47, 32]⟩)).run Tryz.prog (W.alloc (.map #[{ key := .int .i64 7, val := .string ⟨#[32, 45, 32]⟩, born := 0 }, { key := .int .i64 15, val := .string ⟨#[32, 37, 32]⟩, born := 1 }] 2)) = .ok () (W.alloc (.map twos 3)) :=
  ⟨run_insert_new _ _ rfl #[] 0 _ _ Tryz.underlying68 Tryz.underlying3 (by simp [MapKept.IsKey]) (by simp),
   run_insert_new _ _ rfl #[{ key := .int .i64 7, val := .string ⟨#[32, 45, 32]⟩, born := 0 }] 1 _ _ Tryz.underlying68 Tryz.underlying3 (by simp [MapKept.IsKey]) (by simp [MapKept.IsKey]),
   run_insert_new _ _ rfl #[{ key := .int .i64 7, val := .string ⟨#[32, 45, 32]⟩, born := 0 }, { key := .int .i64 15, val := .string ⟨#[32, 37, 32]⟩, born := 1 }] 2 _ _ Tryz.underlying68 Tryz.underlying3 (by simp [MapKept.IsKey]) (by simp [MapKept.IsKey])⟩
end Go.Proofs.YtgdnhlckodhhgaaGreat
