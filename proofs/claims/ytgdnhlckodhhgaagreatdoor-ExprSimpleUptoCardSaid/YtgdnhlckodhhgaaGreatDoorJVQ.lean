/-
  Plain Lean: what is simplified: no more nodes, the same words, and it stays as it is.
-/
import Derived.Test.YtgdnhlckodhhgaaGreatDoorJVE
import Derived.Test.YtgdnhlckodhhgaaGreatDoorJQ
import Derived.Test.YtgdnhlckodhhgaaGreatDoorJZ
import Derived.Test.YtgdnhlckodhhgaaGreatDoorJC
namespace Go.Proofs.YtgdnhlckodhhgaaGreatDoor
set_option linter.unusedVariables false
set_option linter.unusedSimpArgs false
/-! ### Rows of words -/
section
variable {p q : List Bs → Bool} {w : List Bs}
theorem Ef_iff {m : Nat} : Ef p w m = true ↔ m = 0 ∨ ∃ i, i < m ∧ Ef p w i = true ∧ p (part w i m) = true := by
  cases m with
  | zero => simp [Ef, starE]
  | succ m =>
    rw [Ef_succ, List.any_eq_true]
    constructor
    · rintro ⟨i, hi, h⟩
      rw [List.mem_range] at hi
      rw [Bool.and_eq_true] at h
      exact .inr ⟨i, hi, h⟩
    · rintro (h | ⟨i, hi, h⟩)
      · cases h
      · exact ⟨i, by rw [List.mem_range]; exact hi, by rw [Bool.and_eq_true]; exact h⟩
theorem Ef_mono (h : ∀ u, p u = true → q u = true) : ∀ m, Ef p w m = true → Ef q w m = true := by
  intro m
  induction m using Nat.strongRecOn with
  | _ m ih =>
    intro hm
    rw [Ef_iff] at hm ⊢
    rcases hm with hm | ⟨i, hi, h1, h2⟩
    · exact .inl hm
    · exact .inr ⟨i, hi, ih i hi h1, h _ h2⟩
theorem starB_mono (h : ∀ u, p u = true → q u = true) (w : List Bs) : starB p w = true → starB q w = true := Ef_mono h _
theorem part_part {u : List Bs} {i m j k : Nat} (hm : i + k ≤ m) : part (part u i m) j k = part u (i + j) (i + k) := by
  unfold part
  rw [List.take_drop, List.drop_drop, List.take_take, Nat.min_eq_left hm]
theorem star_cat {i m : Nat} (hi : Ef p w i = true) (hm : m ≤ w.length) : ∀ k, i + k ≤ m → Ef p (part w i m) k = true → Ef p w (i + k) = true := by
  intro k
  induction k using Nat.strongRecOn with
  | _ k ih =>
    intro hk h
    rw [Ef_iff] at h
    rcases h with rfl | ⟨j, hj, h1, h2⟩
    · exact hi
    · rw [part_part hk] at h2
      rw [Ef_iff]
      exact .inr ⟨i + j, by omega, ih j hj (by omega) h1, h2⟩
theorem star_star (p : List Bs → Bool) (w : List Bs) : starB (starB p) w = starB p w := by
  have key : ∀ m, m ≤ w.length → (Ef (starB p) w m = true ↔ Ef p w m = true) := by
    intro m
    induction m using Nat.strongRecOn with
    | _ m ih =>
      intro hm
      constructor
      · intro h
        rw [Ef_iff] at h
        rcases h with rfl | ⟨i, hi, h1, h2⟩
        · exact Ef_iff.2 (.inl rfl)
        · have h3 := (ih i hi (by omega)).1 h1
          have hl : (part w i m).length = m - i := by unfold part; rw [List.length_drop, List.length_take, Nat.min_eq_left hm]
          have h4 : Ef p (part w i m) (m - i) = true := by rw [starB_eq, hl] at h2; exact h2
          have := star_cat h3 hm (m - i) (by omega) h4
          rwa [show i + (m - i) = m by omega] at this
      · intro h
        rw [Ef_iff] at h
        rcases h with rfl | ⟨i, hi, h1, h2⟩
        · exact Ef_iff.2 (.inl rfl)
        · rw [Ef_iff]
          refine .inr ⟨i, hi, (ih i hi (by omega)).2 h1, star_one ?_ h2⟩
          intro hn
          have hl : (part w i m).length = m - i := by unfold part; rw [List.length_drop, List.length_take, Nat.min_eq_left hm]
          rw [hn] at hl
          simp at hl; omega
  rw [Bool.eq_iff_iff, starB_eq, starB_eq]
  exact key w.length (Nat.le_refl _)
theorem star_nil (p : List Bs → Bool) : starB p [] = true := by simp [starB, starE]
/-- What lies between the words and the rows of them has the same rows. -/
theorem star_between (h1 : ∀ u, p u = true → q u = true) (h2 : ∀ u, q u = true → starB p u = true) (w : List Bs) : starB q w = starB p w := by
  rw [Bool.eq_iff_iff]
  constructor
  · intro h
    rw [← star_star]
    exact starB_mono h2 w h
  · exact starB_mono h1 w
theorem one_star {u : List Bs} (h : p u = true) : starB p u = true := by
  by_cases hu : u = []
  · rw [hu]; exact star_nil p
  · exact star_one hu h
theorem star_eps (h : ∀ u, p u = (u == [])) (w : List Bs) : starB p w = (w == []) := by
  rw [Bool.eq_iff_iff]
  constructor
  · intro hx
    rw [starB_eq, Ef_iff] at hx
    rcases hx with hx | ⟨i, hi, _, h2⟩
    · simp [List.length_eq_zero_iff.1 hx]
    · rw [h] at h2
      have h3 : part w i w.length = [] := by simpa using h2
      have hl : (part w i w.length).length = w.length - i := by unfold part; rw [List.length_drop, List.length_take, Nat.min_self]
      rw [h3] at hl
      simp at hl; omega
  · intro hx
    have : w = [] := by simpa using hx
    rw [this]; exact star_nil p
/-! ### Chains -/
theorem Cf_congr (ps : List (List Bs → Bool)) : ∀ f g : Nat → Bool, (∀ m, m ≤ w.length → f m = g m) → ∀ m, m ≤ w.length → Cf w ps f m = Cf w ps g m := by
  induction ps with
  | nil => intro f g h; exact h
  | cons p ps ih =>
    intro f g h
    refine ih _ _ (fun m hm => ?_)
    unfold stepF
    rw [Bool.eq_iff_iff, List.any_eq_true, List.any_eq_true]
    constructor
    · rintro ⟨i, hi, hx⟩; exact ⟨i, hi, by rw [List.mem_range] at hi; rw [← h i (by omega)]; exact hx⟩
    · rintro ⟨i, hi, hx⟩; exact ⟨i, hi, by rw [List.mem_range] at hi; rw [h i (by omega)]; exact hx⟩
theorem step_eps (hp : ∀ u, p u = (u == [])) (f : Nat → Bool) (m : Nat) (hm : m ≤ w.length) : stepF p w f m = f m := by
  unfold stepF
  have hl : ∀ i, (part w i m).length = m - i := fun i => by unfold part; rw [List.length_drop, List.length_take, Nat.min_eq_left hm]
  rw [Bool.eq_iff_iff, List.any_eq_true]
  constructor
  · rintro ⟨i, hi, hx⟩
    rw [List.mem_range] at hi
    rw [Bool.and_eq_true, hp] at hx
    have h3 : part w i m = [] := by simpa using hx.2
    have := hl i
    rw [h3] at this
    simp at this
    have : i = m := by omega
    rw [← this]; exact hx.1
  · intro h
    refine ⟨m, by rw [List.mem_range]; omega, ?_⟩
    rw [h, hp]
    have : part w m m = [] := List.length_eq_zero_iff.1 (by rw [hl]; omega)
    rw [this]; rfl
theorem chain_filter (r : E → Bool) (l : List E) (h : ∀ x ∈ l, r x = false → ∀ u, rev x u = (u == [])) : ∀ f m, m ≤ w.length → Cf w (revs (l.filter r)) f m = Cf w (revs l) f m := by
  induction l with
  | nil => intro f m _; rfl
  | cons a l ih =>
    intro f m hm
    have ih := ih (fun x hx => h x (by simp [hx]))
    cases ha : r a with
    | true =>
      rw [List.filter_cons_of_pos (by simpa using ha)]
      simp only [revs, Cf]
      exact ih _ m hm
    | false =>
      rw [List.filter_cons_of_neg (by simp [ha])]
      simp only [revs, Cf]
      rw [ih f m hm]
      exact Cf_congr _ _ _ (fun m hm => (step_eps (h a (by simp) ha) f m hm).symm) m hm
theorem chain_one (p : List Bs → Bool) (u : List Bs) : chainB [p] u = p u := by
  rw [chainB_eq]
  simp only [Cf, stepF]
  have hp : part u 0 u.length = u := by simp [part]
  rw [Bool.eq_iff_iff, List.any_eq_true]
  constructor
  · rintro ⟨i, hi, hx⟩
    rw [Bool.and_eq_true] at hx
    have : i = 0 := by simpa [begF] using hx.1
    subst this
    rw [hp] at hx
    exact hx.2
  · intro h
    exact ⟨0, by simp, by rw [hp, h]; rfl⟩
theorem chain_none (u : List Bs) : chainB ([] : List (List Bs → Bool)) u = (u == []) := by
  rw [chainB_eq]
  simp only [Cf, begF]
  cases u <;> simp
end
/-! ### Simplified -/
def shr (none : Int) (e : E) : E := match e.l with
  | [] => .mk none [] []
  | [x] => x
  | _ => e
noncomputable def orL (acc : List E) : List E → List E
  | [] => acc
  | x :: l => orL (if x.op = 3 ∨ acc.any (fun y => same x y) = true then acc else acc ++ [x]) l
def hdE (l : List E) : E := l.headD (.mk 0 [] [])
noncomputable def redOp (op : Int) (s : Bs) (l : List E) : E :=
  if op = 11 then (if (hdE l).op = 11 then hdE (hdE l).l else .mk op s l)
  else if op = 8 then (if (hdE l).op = 8 ∨ (hdE l).op = 2 then hdE l else if (hdE l).op = 9 ∨ (hdE l).op = 10 then .mk 8 [] (hdE l).l else .mk op s l)
  else if op = 9 ∨ op = 10 then (if (hdE l).op = 8 ∨ (hdE l).op = op ∨ (hdE l).op = 2 then hdE l else .mk op s l)
  else if op = 4 then shr 2 (.mk op s (l.filter fun x => !(x.op == 2)))
  else if op = 5 then shr 3 (.mk op s (orL [] l))
  else .mk op s l
mutual
noncomputable def E.red : E → E
  | .mk op s l => redOp op s (reds l)
noncomputable def reds : List E → List E
  | [] => []
  | e :: l => e.red :: reds l
end
theorem reds_map (l : List E) : reds l = l.map E.red := by
  induction l with
  | nil => simp [reds]
  | cons a l ih => simp [reds, ih]
theorem E.red_eq (e : E) : e.red = redOp e.op e.s (reds e.l) := by cases e; simp [E.red, E.op, E.s, E.l]
theorem rev_mk (op : Int) (s : Bs) (l : List E) (u : List Bs) : rev (.mk op s l) u = revOp op s (revs l) u := by simp [rev]
theorem rev_of (e : E) (u : List Bs) : rev e u = revOp e.op e.s (revs e.l) u := by cases e; simp [rev, E.op, E.s, E.l]
theorem orL_any (u : List Bs) (l : List E) : ∀ acc, (orL acc l).any (fun x => rev x u) = (acc.any (fun x => rev x u) || l.any (fun x => rev x u)) := by
  induction l with
  | nil => intro acc; simp [orL]
  | cons x l ih =>
    intro acc
    rw [orL, ih]
    by_cases h : x.op = 3 ∨ acc.any (fun y => same x y) = true
    · rw [if_pos h]
      simp only [List.any_cons]
      cases hx : rev x u with
      | false => simp
      | true =>
        have : acc.any (fun x => rev x u) = true := by
          rcases h with h | h
          · rw [rev_of, h] at hx
            simp [revOp] at hx
          · rw [List.any_eq_true] at h ⊢
            obtain ⟨y, hy, hs⟩ := h
            rw [same_iff] at hs
            exact ⟨y, hy, by rw [← hs]; exact hx⟩
        rw [this]; simp
    · rw [if_neg h]
      simp [List.any_append, Bool.or_assoc]
theorem orL_sub (l : List E) : ∀ acc, ∃ m, orL acc l = acc ++ m ∧ m.Sublist l := by
  induction l with
  | nil => intro acc; exact ⟨[], by simp [orL], List.Sublist.refl _⟩
  | cons x l ih =>
    intro acc
    rw [orL]
    by_cases h : x.op = 3 ∨ acc.any (fun y => same x y) = true
    · rw [if_pos h]
      obtain ⟨m, h1, h2⟩ := ih acc
      exact ⟨m, h1, h2.cons _⟩
    · rw [if_neg h]
      obtain ⟨m, h1, h2⟩ := ih (acc ++ [x])
      exact ⟨x :: m, by rw [h1]; simp, h2.cons_cons _⟩
theorem sizes_sub {l m : List E} (h : m.Sublist l) : sizes m ≤ sizes l ∧ (sizes m = sizes l → m = l) := by
  induction h with
  | slnil => exact ⟨Nat.le_refl _, fun _ => rfl⟩
  | cons a h ih =>
    have := size_pos a
    simp only [sizes]
    exact ⟨by omega, fun h => by omega⟩
  | cons_cons a h ih =>
    simp only [sizes]
    refine ⟨by omega, fun h => ?_⟩
    rw [ih.2 (by omega)]
theorem nests_sub {l m : List E} (h : m.Sublist l) : nests m ≤ nests l := by
  induction h with
  | slnil => exact Nat.le_refl _
  | cons a h ih => simp only [nests]; omega
  | cons_cons a h ih => simp only [nests]; omega
/-- What is so of simplified nodes. -/
structure RedOk (a b : E) : Prop where
  size : b.size ≤ a.size
  same : b.size = a.size → b = a
  nest : b.nest ≤ a.nest
  syms : ∀ x ∈ b.syms, x ∈ a.syms
  right : b.right = true
  word : ∀ u, rev b u = rev a u
end Go.Proofs.YtgdnhlckodhhgaaGreatDoor

/-
  Plain Lean: what is simplified is right, no larger, has the same words; where it is as large it is the same.
-/
namespace Go.Proofs.YtgdnhlckodhhgaaGreatDoor
set_option linter.unusedVariables false
set_option linter.unusedSimpArgs false
theorem mk_size (op : Int) (s : Bs) (l : List E) : (E.mk op s l).size = 1 + sizes l := by simp [E.size]
theorem mk_nest (op : Int) (s : Bs) (l : List E) : (E.mk op s l).nest = 1 + nests l := by simp [E.nest]
theorem mk_syms {op : Int} (h : op ≠ 0) (s : Bs) (l : List E) : (E.mk op s l).syms = symss l := by rw [E.syms, if_neg h]; rfl
theorem mk_right (op : Int) (s : Bs) (l : List E) : (E.mk op s l).right = (fits op s l.length && l.all E.right) := by rw [E.right_eq]; rfl
theorem RedOk.refl {a : E} (h : a.right = true) : RedOk a a := ⟨Nat.le_refl _, fun _ => rfl, Nat.le_refl _, fun _ h => h, h, fun _ => rfl⟩
theorem RedOk.trans {a b c : E} (h : RedOk a b) (k : RedOk b c) : RedOk a c :=
  ⟨Nat.le_trans k.size h.size, fun e => by
    have h1 := h.size
    have h2 := k.size
    rw [k.same (by omega), h.same (by omega)], Nat.le_trans k.nest h.nest, fun x hx => h.syms x (k.syms x hx), k.right, fun u => (k.word u).trans (h.word u)⟩
theorem RedOk.less {a b : E} (h : b.size < a.size) (hn : b.nest ≤ a.nest) (hs : ∀ x ∈ b.syms, x ∈ a.syms) (hr : b.right = true) (hw : ∀ u, rev b u = rev a u) : RedOk a b :=
  ⟨Nat.le_of_lt h, fun e => by omega, hn, hs, hr, hw⟩
theorem one_of {l : List E} (h : l.length = 1) : ∃ x, l = [x] := by
  match l, h with
  | [x], _ => exact ⟨x, rfl⟩
theorem fits_one {op : Int} {s : Bs} {n : Nat} (h : fits op s n = true) (ho : op = 8 ∨ op = 9 ∨ op = 10 ∨ op = 11) : n = 1 := by
  simp only [fits, Bool.and_eq_true, decide_eq_true_eq] at h
  obtain ⟨⟨⟨_, h1⟩, h2⟩, _⟩ := h
  rcases ho with rfl | rfl | rfl | rfl <;> simp [kidsR] at h1 h2 <;> omega
theorem fits_many {op : Int} {s : Bs} {n : Nat} (h : fits op s n = true) (ho : op = 4 ∨ op = 5) : 2 ≤ n ∧ n ≤ 40 ∧ s = [] := by
  simp only [fits, Bool.and_eq_true, decide_eq_true_eq] at h
  obtain ⟨⟨⟨_, h1⟩, h2⟩, h3⟩ := h
  rcases ho with rfl | rfl <;> simp [kidsR] at h1 h2 h3 <;> exact ⟨by omega, by omega, h3⟩
theorem fits_of_many {op : Int} {n : Nat} (ho : op = 4 ∨ op = 5) (h1 : 2 ≤ n) (h2 : n ≤ 40) : fits op [] n = true := by
  rcases ho with rfl | rfl <;> simp [fits, kidsR] <;> omega
theorem fits_star : fits 8 [] 1 = true := by decide
theorem symss_sub {l m : List E} (h : m.Sublist l) : ∀ x ∈ symss m, x ∈ symss l := by
  induction h with
  | slnil => exact fun x h => h
  | cons a h ih => intro x hx; rw [symss, List.mem_append]; exact .inr (ih x hx)
  | cons_cons a h ih =>
    intro x hx
    rw [symss, List.mem_append] at hx ⊢
    exact hx.elim .inl (fun h => .inr (ih x h))
theorem right_one {op : Int} {s : Bs} {h : E} (hr : (E.mk op s [h]).right = true) : h.right = true := by
  rw [mk_right, Bool.and_eq_true] at hr
  simpa using hr.2
/-- A node whose list has grown shorter. -/
theorem shr_ok {op none : Int} (ho : op = 4 ∨ op = 5) (hn : none = 2 ∨ none = 3) {s : Bs} {l m : List E} (hr : (E.mk op s l).right = true) (hm : m.Sublist l)
    (h0 : m = [] → ∀ u, rev (.mk none [] []) u = rev (.mk op s l) u) (h1 : ∀ x, m = [x] → ∀ u, rev x u = rev (.mk op s l) u) (h2 : ∀ u, rev (.mk op s m) u = rev (.mk op s l) u) : RedOk (.mk op s l) (shr none (.mk op s m)) := by
  have hop : op ≠ 0 := by rcases ho with rfl | rfl <;> decide
  have hnone : none ≠ 0 := by rcases hn with rfl | rfl <;> decide
  rw [mk_right, Bool.and_eq_true] at hr
  obtain ⟨hf, hall⟩ := hr
  obtain ⟨hl1, hl2, hs⟩ := fits_many hf ho
  have hz := sizes_sub hm
  have hll := length_sizes l
  have hrm : m.all E.right = true := by
    rw [List.all_eq_true] at hall ⊢
    exact fun x hx => hall x (hm.subset hx)
  match m, hm, h0, h1, h2, hz, hrm with
  | [], hm, h0, _, _, _, _ =>
    show RedOk _ (E.mk none [] [])
    refine .less (by rw [mk_size, mk_size]; simp only [sizes]; omega) (by rw [mk_nest, mk_nest]; simp only [nests]; omega) (fun x hx => ?_) ?_ (h0 rfl)
    · rw [mk_syms hnone] at hx; simp [symss] at hx
    · rw [mk_right]; rcases hn with rfl | rfl <;> decide
  | [x], hm, _, h1, _, hz, hrm =>
    show RedOk _ x
    have hn := nests_sub hm
    have hsy := symss_sub hm
    simp only [sizes, nests, symss] at hz hn hsy
    refine .less (by rw [mk_size]; omega) (by rw [mk_nest]; omega) (fun y hy => ?_) (by simpa using hrm) (h1 x rfl)
    rw [mk_syms hop]
    exact hsy y (by simpa using hy)
  | x :: y :: r, hm, _, _, h2, hz, hrm =>
    show RedOk _ (E.mk op s (x :: y :: r))
    refine ⟨by rw [mk_size, mk_size]; omega, fun e => ?_, by rw [mk_nest, mk_nest]; have := nests_sub hm; omega, fun z hz => ?_, ?_, h2⟩
    · rw [mk_size, mk_size] at e
      rw [hz.2 (by omega)]
    · rw [mk_syms hop] at hz ⊢
      exact symss_sub hm z hz
    · rw [mk_right, Bool.and_eq_true]
      refine ⟨?_, hrm⟩
      rw [hs]
      have := hm.length_le
      exact fits_of_many ho (by simp) (by omega)
theorem rev_un {op : Int} {s : Bs} {h : E} {u : List Bs} : rev (.mk op s [h]) u = revOp op s [rev h] u := by rw [rev_mk]; simp [revs]
theorem mk_eta (h : E) : h = .mk h.op h.s h.l := by cases h; rfl
theorem mk_l (op : Int) (s : Bs) (l : List E) : (E.mk op s l).l = l := rfl
theorem to_kid {op : Int} {s : Bs} {h : E} (ho : op ≠ 0) (hr : h.right = true) (hw : ∀ u, rev h u = rev (.mk op s [h]) u) : RedOk (.mk op s [h]) h := by
  refine .less (by rw [mk_size]; simp only [sizes]; omega) (by rw [mk_nest]; simp only [nests]; omega) (fun x hx => ?_) hr hw
  rw [mk_syms ho]; simp [symss, hx]
theorem redOp_ok {op : Int} {s : Bs} {l : List E} (hr : (E.mk op s l).right = true) : RedOk (.mk op s l) (redOp op s l) := by
  have hf : fits op s l.length = true := by rw [mk_right, Bool.and_eq_true] at hr; exact hr.1
  unfold redOp
  by_cases e11 : op = 11
  · rw [if_pos e11]
    subst e11
    obtain ⟨h, rfl⟩ := one_of (fits_one hf (by simp))
    have hh := right_one hr
    show RedOk _ (if h.op = 11 then hdE h.l else E.mk 11 s [h])
    by_cases h11 : h.op = 11
    · rw [if_pos h11]
      have hh2 := hh
      rw [E.right_eq, Bool.and_eq_true, h11] at hh2
      obtain ⟨k, hk⟩ := one_of (fits_one hh2.1 (by simp))
      have hks := E.size_eq h
      have hkn := E.nest_eq h
      have hky := E.syms_eq h
      rw [hk] at hks hkn hky
      simp only [sizes, nests, symss] at hks hkn hky
      rw [hk]
      show RedOk _ k
      refine .less (by rw [mk_size]; simp only [sizes]; omega) (by rw [mk_nest]; simp only [nests]; omega) (fun x hx => ?_) (by have := hh2.2; rw [hk] at this; simpa using this) (fun u => ?_)
      · rw [mk_syms (by decide)]; simp only [symss]; rw [hky]; simp [hx]
      · rw [rev_un]
        have e1 : rev h u = !rev k u := by rw [rev_of, h11, hk]; simp [revOp, revs, nth]
        simp [revOp, nth, e1]
    · rw [if_neg h11]; exact .refl hr
  rw [if_neg e11]
  by_cases e8 : op = 8
  · rw [if_pos e8]
    subst e8
    obtain ⟨h, rfl⟩ := one_of (fits_one hf (by simp))
    have hh := right_one hr
    have hstar : ∀ u, rev (.mk 8 s [h]) u = starB (rev h) u := fun u => by rw [rev_un]; simp [revOp, nth]
    show RedOk _ (if h.op = 8 ∨ h.op = 2 then h else if h.op = 9 ∨ h.op = 10 then E.mk 8 [] h.l else E.mk 8 s [h])
    by_cases h8 : h.op = 8 ∨ h.op = 2
    · rw [if_pos h8]
      refine to_kid (by decide) hh (fun u => ?_)
      rw [hstar]
      rcases h8 with h8 | h8
      · have e1 : rev h = starB (nth (revs h.l) 0) := by funext u; rw [rev_of, h8]; simp [revOp]
        rw [e1, star_star]
      · rw [star_eps (fun u => by rw [rev_of, h8]; simp [revOp]), rev_of, h8]; simp [revOp]
    rw [if_neg h8]
    by_cases h9 : h.op = 9 ∨ h.op = 10
    · rw [if_pos h9]
      have hh2 := hh
      rw [E.right_eq, Bool.and_eq_true] at hh2
      obtain ⟨k, hk⟩ := one_of (fits_one hh2.1 (by rcases h9 with h | h <;> simp [h]))
      have hks := E.size_eq h
      have hkn := E.nest_eq h
      have hky := E.syms_eq h
      rw [if_neg (by rcases h9 with h | h <;> rw [h] <;> decide)] at hky
      refine .less (by rw [mk_size, mk_size]; simp only [sizes]; omega) (by rw [mk_nest, mk_nest]; simp only [nests]; omega) (fun x hx => ?_) ?_ (fun u => ?_)
      · rw [mk_syms (by decide)] at hx ⊢; simp only [symss]; rw [hky]; simp [hx]
      · rw [mk_right, Bool.and_eq_true, hk]
        refine ⟨fits_star, ?_⟩
        have := hh2.2; rw [hk] at this; exact this
      · rw [hstar, rev_mk, hk]
        have e1 : revOp 8 [] (revs [k]) u = starB (rev k) u := by simp [revOp, revs, nth]
        rw [e1]
        symm
        rcases h9 with h9 | h9
        · have e2 : ∀ u, rev h u = ((!(u == []) && starB (rev k) u) || rev k u) := fun u => by rw [rev_of, h9, hk]; simp [revOp, revs, nth]
          refine star_between (fun u hu => by rw [e2, hu]; simp) (fun u hu => ?_) u
          rw [e2, Bool.or_eq_true, Bool.and_eq_true] at hu
          rcases hu with hu | hu
          · exact hu.2
          · exact one_star hu
        · have e2 : ∀ u, rev h u = (u == [] || rev k u) := fun u => by rw [rev_of, h9, hk]; simp [revOp, revs, nth]
          refine star_between (fun u hu => by rw [e2, hu]; simp) (fun u hu => ?_) u
          rw [e2, Bool.or_eq_true] at hu
          rcases hu with hu | hu
          · have : u = [] := by simpa using hu
            rw [this]; exact star_nil _
          · exact one_star hu
    · rw [if_neg h9]; exact .refl hr
  rw [if_neg e8]
  by_cases e9 : op = 9 ∨ op = 10
  · rw [if_pos e9]
    obtain ⟨h, rfl⟩ := one_of (fits_one hf (by rcases e9 with e | e <;> simp [e]))
    have hh := right_one hr
    have hop : op ≠ 0 := by rcases e9 with rfl | rfl <;> decide
    show RedOk _ (if h.op = 8 ∨ h.op = op ∨ h.op = 2 then h else E.mk op s [h])
    by_cases h8 : h.op = 8 ∨ h.op = op ∨ h.op = 2
    · rw [if_pos h8]
      refine to_kid hop hh (fun u => ?_)
      rw [rev_un]
      rcases e9 with rfl | rfl
      · have e0 : revOp 9 s [rev h] u = ((!(u == []) && starB (rev h) u) || rev h u) := by simp [revOp, nth]
        rw [e0]
        rcases h8 with h8 | h8 | h8
        · have e1 : rev h = starB (nth (revs h.l) 0) := by funext u; rw [rev_of, h8]; simp [revOp]
          rw [e1, star_star]
          cases starB (nth (revs h.l) 0) u <;> simp
        · have e1 : ∀ u, rev h u = ((!(u == []) && starB (nth (revs h.l) 0) u) || nth (revs h.l) 0 u) := fun u => by rw [rev_of, h8]; simp [revOp]
          have e2 : starB (rev h) u = starB (nth (revs h.l) 0) u := star_between (fun u hu => by rw [e1, hu]; simp) (fun u hu => by
            rw [e1, Bool.or_eq_true, Bool.and_eq_true] at hu
            rcases hu with hu | hu
            · exact hu.2
            · exact one_star hu) u
          rw [e2, e1]
          cases (u == []) <;> cases starB (nth (revs h.l) 0) u <;> cases nth (revs h.l) 0 u <;> rfl
        · have e1 : ∀ u, rev h u = (u == []) := fun u => by rw [rev_of, h8]; simp [revOp]
          rw [star_eps e1, e1]
          cases (u == []) <;> rfl
      · have e0 : revOp 10 s [rev h] u = (u == [] || rev h u) := by simp [revOp, nth]
        rw [e0]
        rcases h8 with h8 | h8 | h8
        · have e1 : rev h = starB (nth (revs h.l) 0) := by funext u; rw [rev_of, h8]; simp [revOp]
          rw [e1]
          by_cases hu : u = []
          · rw [hu, star_nil]; rfl
          · simp [hu]
        · have e1 : ∀ u, rev h u = (u == [] || nth (revs h.l) 0 u) := fun u => by rw [rev_of, h8]; simp [revOp]
          rw [e1]
          cases (u == []) <;> rfl
        · have e1 : ∀ u, rev h u = (u == []) := fun u => by rw [rev_of, h8]; simp [revOp]
          rw [e1]; simp
    · rw [if_neg h8]; exact .refl hr
  rw [if_neg e9]
  by_cases e4 : op = 4
  · rw [if_pos e4]
    subst e4
    have hw : ∀ u, chainB (revs (l.filter fun x => !(x.op == 2))) u = chainB (revs l) u := fun u => by
      rw [chainB_eq, chainB_eq]
      refine chain_filter _ l (fun x hx h u => ?_) _ _ (Nat.le_refl _)
      have : x.op = 2 := by simpa using h
      rw [rev_of, this]; simp [revOp]
    have hc : ∀ m u, rev (.mk 4 s m) u = chainB (revs m) u := fun m u => by rw [rev_mk]; simp [revOp]
    refine shr_ok (.inl rfl) (.inl rfl) hr List.filter_sublist (fun h0 u => ?_) (fun x h1 u => ?_) (fun u => by rw [hc, hc, hw])
    · rw [hc, ← hw, h0, rev_mk]
      simp only [revs]
      rw [chain_none]; simp [revOp]
    · rw [hc, ← hw, h1]
      simp only [revs]
      rw [chain_one]
  rw [if_neg e4]
  by_cases e5 : op = 5
  · rw [if_pos e5]
    subst e5
    obtain ⟨m, hm1, hm2⟩ := orL_sub l []
    have hc : ∀ m u, rev (.mk 5 s m) u = m.any (fun x => rev x u) := fun m u => by rw [rev_mk]; simp [revOp, revs_map, List.any_map]; rfl
    have hw : ∀ u, (orL [] l).any (fun x => rev x u) = l.any (fun x => rev x u) := fun u => by rw [orL_any]; simp
    rw [List.nil_append] at hm1
    rw [hm1] at hw ⊢
    refine shr_ok (.inr rfl) (.inr rfl) hr hm2 (fun h0 u => ?_) (fun x h1 u => ?_) (fun u => by rw [hc, hc, hw])
    · rw [hc, ← hw, h0, rev_mk]; simp [revOp]
    · rw [hc, ← hw, h1]; simp
  rw [if_neg e5]
  exact .refl hr
/-- Lists of simplified nodes. -/
theorem reds_ok {l : List E} (h : ∀ x ∈ l, x.right = true → RedOk x x.red) (hr : l.all E.right = true) : sizes (reds l) ≤ sizes l ∧ (sizes (reds l) = sizes l → reds l = l) ∧ nests (reds l) ≤ nests l ∧ (∀ x ∈ symss (reds l), x ∈ symss l) ∧ (reds l).all E.right = true ∧ revs (reds l) = revs l ∧ (reds l).length = l.length := by
  induction l with
  | nil => simp [reds]
  | cons a l ih =>
    rw [List.all_cons, Bool.and_eq_true] at hr
    obtain ⟨h1, h2, h3, h4, h5, h6, h7⟩ := ih (fun x hx => h x (by simp [hx])) hr.2
    have ha := h a (by simp) hr.1
    have hs := ha.size
    have hn := ha.nest
    simp only [reds, sizes, nests, symss, revs, List.all_cons, List.length_cons]
    refine ⟨by omega, fun e => ?_, by omega, fun x hx => ?_, by rw [ha.right, h5]; rfl, ?_, by omega⟩
    · rw [ha.same (by omega), h2 (by omega)]
    · rw [List.mem_append] at hx ⊢
      exact hx.elim (fun h => .inl (ha.syms x h)) (fun h => .inr (h4 x h))
    · have e1 : rev a.red = rev a := by funext u; exact ha.word u
      rw [h6, e1]
theorem red_ok (n : Nat) : ∀ e : E, e.size ≤ n → e.right = true → RedOk e e.red := by
  induction n with
  | zero => intro e h; have := size_pos e; omega
  | succ n ih =>
    intro e he hr
    have hsz := E.size_eq e
    have hr' := hr
    rw [E.right_eq, Bool.and_eq_true] at hr'
    obtain ⟨h1, h2, h3, h4, h5, h6, h7⟩ := reds_ok (l := e.l) (fun x hx hr => ih x (by have := size_mem hx; omega) hr) hr'.2
    have hmid : RedOk e (.mk e.op e.s (reds e.l)) := by
      have hn := E.nest_eq e
      refine ⟨by rw [mk_size]; omega, fun h => ?_, by rw [mk_nest]; omega, fun x hx => ?_, by rw [mk_right, h7, hr'.1, h5]; rfl, fun u => ?_⟩
      · rw [mk_size] at h
        rw [h2 (by omega)]
        exact E.eta e
      · rw [E.syms_eq] at hx ⊢
        rw [List.mem_append] at hx ⊢
        exact hx.elim .inl (fun h => .inr (h4 x h))
      · rw [rev_mk, h6, ← rev_of]
    rw [E.red_eq]
    exact hmid.trans (redOp_ok hmid.right)
end Go.Proofs.YtgdnhlckodhhgaaGreatDoor
