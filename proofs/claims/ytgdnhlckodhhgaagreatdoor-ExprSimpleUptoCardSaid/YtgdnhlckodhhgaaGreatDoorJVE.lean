/-
  Plain Lean: which words an expression holds, by the reference's meaning; that the program's meaning, over numbers for symbols, is it.
-/
import Derived.Test.YtgdnhlckodhhgaaGreatDoorJQ
import Derived.Test.YtgdnhlckodhhgaaGreatDoorJH
import Derived.Test.YtgdnhlckodhhgaaGreatDoorJK
import Derived.Test.YtgdnhlckodhhgaaGreatDoorJW0
import Derived.Test.YtgdnhlckodhhgaaGreatDoorJW2
namespace Go.Proofs.YtgdnhlckodhhgaaGreatDoor
set_option linter.unusedVariables false
set_option linter.unusedSimpArgs false
/-- A word cut into two by a number's bits: what is set, what is not, the stretches of what is not. -/
structure CutR where
  a : List Bs
  b : List Bs
  rs : List (List Bs)
def cutAddR (m i : Nat) (c : Bs) (x : CutR) : CutR := if (m >>> i) % 2 = 1 then ⟨x.a ++ [c], x.b, x.rs ++ [[]]⟩ else ⟨x.a, x.b ++ [c], x.rs.dropLast ++ [x.rs.getLastD [] ++ [c]]⟩
def cutToR (m : Nat) (w : List Bs) : Nat → CutR
  | 0 => ⟨[], [], [[]]⟩
  | i + 1 => cutAddR m i (w.getD i []) (cutToR m w i)
def shufR (p q : List Bs → Bool) (w : List Bs) : Bool := (List.range (2 ^ w.length)).any fun m => p (cutToR m w w.length).a && q (cutToR m w w.length).b
def ignR (p q : List Bs → Bool) (w : List Bs) : Bool := (List.range (2 ^ w.length)).any fun m => p (cutToR m w w.length).a && (cutToR m w w.length).rs.all (starB q)
def withinB {α : Type} (p : List α → Bool) (w : List α) : Bool := (List.range (w.length + 1)).any fun i => (List.range (w.length + 1 - i)).any fun d => p (part w i (i + d))
def revOp (op : Int) (s : Bs) (ps : List (List Bs → Bool)) (w : List Bs) : Bool :=
  if op = 0 then w == [s]
  else if op = 1 then w.length == 1
  else if op = 2 then w == []
  else if op = 4 then chainB ps w
  else if op = 5 then ps.any (fun p => p w)
  else if op = 6 then ps.all (fun p => p w)
  else if op = 7 then nth ps 0 w && !nth ps 1 w
  else if op = 8 then starB (nth ps 0) w
  else if op = 9 then (!(w == []) && starB (nth ps 0) w) || nth ps 0 w
  else if op = 10 then w == [] || nth ps 0 w
  else if op = 11 then !nth ps 0 w
  else if op = 12 then withinB (nth ps 0) w
  else if op = 14 then onlyB (nth ps 0) (nth ps 1) (nth ps 2) w
  else if op = 13 then ignR (nth ps 0) (nth ps 1) w
  else if op = 15 then shufR (nth ps 0) (nth ps 1) w
  else false
mutual
def rev : E → List Bs → Bool
  | .mk op s l => revOp op s (revs l)
def revs : List E → List (List Bs → Bool)
  | [] => []
  | a :: l => rev a :: revs l
end
theorem revs_map (l : List E) : revs l = l.map rev := by
  induction l with
  | nil => simp [revs]
  | cons a l ih => simp [revs, ih]
/-! ### Symbols for numbers -/
section
variable {f : Bs → UInt8} {p q r : List Bs → Bool} {p' q' r' : Bs → Bool} {w : List Bs}
/-- The same answer, of all parts of a word. -/
def Alike (f : Bs → UInt8) (w : List Bs) (p' : Bs → Bool) (p : List Bs → Bool) : Prop := ∀ v : List Bs, v.Sublist w → p' (v.map f) = p v
theorem part_sub (w : List Bs) (i k : Nat) : (part w i k).Sublist w := (List.drop_sublist _ _).trans (List.take_sublist _ _)
theorem part_map (w : List Bs) (i k : Nat) : part (w.map f) i k = (part w i k).map f := by simp [part, List.map_take, List.map_drop]
theorem starE_map (h : Alike f w p' p) (k : Nat) : starE p' (w.map f) k = starE p w k := by
  induction k with
  | zero => rfl
  | succ k ih =>
    simp only [starE, ih]
    congr 2
    congr 1
    funext i
    rw [part_map, h _ (part_sub w _ _)]
theorem starB_map (h : Alike f w p' p) : starB p' (w.map f) = starB p w := by unfold starB; rw [starE_map h, List.length_map]
theorem chainStep_map (h : Alike f w p' p) (es : List Bool) : chainStep p' (w.map f) es = chainStep p w es := by
  unfold chainStep
  rw [List.length_map]
  congr 1
  funext k
  congr 1
  funext i
  rw [part_map, h _ (part_sub w _ _)]
inductive AllAlike (f : Bs → UInt8) (w : List Bs) : List (Bs → Bool) → List (List Bs → Bool) → Prop where
  | nil : AllAlike f w [] []
  | cons {a' a l' l} : Alike f w a' a → AllAlike f w l' l → AllAlike f w (a' :: l') (a :: l)
theorem chainE_map {ps' : List (Bs → Bool)} {ps : List (List Bs → Bool)} (h : AllAlike f w ps' ps) : ∀ es, chainE (w.map f) ps' es = chainE w ps es := by
  induction h with
  | nil => intro es; rfl
  | cons ha _ ih => intro es; simp only [chainE]; rw [chainStep_map ha, ih]
theorem chainB_map {ps' : List (Bs → Bool)} {ps : List (List Bs → Bool)} (h : AllAlike f w ps' ps) : chainB ps' (w.map f) = chainB ps w := by
  unfold chainB start
  rw [List.length_map, chainE_map h]
theorem any_map {ps' : List (Bs → Bool)} {ps : List (List Bs → Bool)} (h : AllAlike f w ps' ps) : ps'.any (fun p => p (w.map f)) = ps.any (fun p => p w) := by
  induction h with
  | nil => rfl
  | cons ha _ ih => simp only [List.any_cons]; rw [ha _ (List.Sublist.refl _), ih]
theorem alls_map {ps' : List (Bs → Bool)} {ps : List (List Bs → Bool)} (h : AllAlike f w ps' ps) : ps'.all (fun p => p (w.map f)) = ps.all (fun p => p w) := by
  induction h with
  | nil => rfl
  | cons ha _ ih => simp only [List.all_cons]; rw [ha _ (List.Sublist.refl _), ih]
theorem nth_map {ps' : List (Bs → Bool)} {ps : List (List Bs → Bool)} (h : AllAlike f w ps' ps) : ∀ i, Alike f w (nth ps' i) (nth ps i) := by
  induction h with
  | nil => intro i v _; rfl
  | cons ha _ ih =>
    intro i
    cases i with
    | zero => exact ha
    | succ i => exact ih i
theorem ends_map (h : Alike f w p' p) : endsB p' (w.map f) = endsB p w := by
  unfold endsB
  rw [List.length_map]
  congr 1
  funext i
  rw [← List.map_drop, h _ (List.drop_sublist _ _)]
theorem begins_map (h : Alike f w p' p) : beginsB p' (w.map f) = beginsB p w := by
  unfold beginsB
  rw [List.length_map]
  congr 1
  funext i
  rw [← List.map_take, h _ (List.take_sublist _ _)]
theorem Alike.sub {v : List Bs} (h : Alike f w p' p) (hv : v.Sublist w) : Alike f v p' p := fun u hu => h u (hu.trans hv)
theorem has_map (h : Alike f w p' p) : hasB p' (w.map f) = hasB p w := by
  unfold hasB
  rw [List.length_map]
  congr 1
  funext i
  rw [← List.map_drop, begins_map (h.sub (List.drop_sublist _ _))]
theorem only_map (hp : Alike f w p' p) (hq : Alike f w q' q) (hr : Alike f w r' r) : onlyB p' q' r' (w.map f) = onlyB p q r w := by
  unfold onlyB
  rw [List.length_map]
  congr 1
  funext i
  congr 1
  funext j
  rw [part_map, hp _ (part_sub w _ _), ← List.map_take, ends_map (hq.sub (List.take_sublist _ _)), ← List.map_drop, begins_map (hr.sub (List.drop_sublist _ _))]
end
/-! ### One meaning in two spellings -/
theorem part_drop {α : Type} (w : List α) (i d : Nat) : part w i (i + d) = (w.drop i).take d := by
  unfold part
  rw [List.drop_take]
  congr 1
  omega
theorem within_has {α : Type} (p : List α → Bool) (w : List α) : withinB p w = hasB p w := by
  unfold withinB hasB beginsB
  rw [Bool.eq_iff_iff, List.any_eq_true, List.any_eq_true]
  have key : ∀ i, i ∈ List.range (w.length + 1) → ((List.range (w.length + 1 - i)).any fun d => p (part w i (i + d))) = ((List.range ((w.drop i).length + 1)).any fun d => p ((w.drop i).take d)) := by
    intro i hi
    have hi : i < w.length + 1 := by simpa using hi
    rw [List.length_drop, show w.length - i + 1 = w.length + 1 - i by omega]
    congr 1
    funext d
    rw [part_drop]
  constructor
  · rintro ⟨i, hi, h⟩; exact ⟨i, hi, by rw [← key i hi]; exact h⟩
  · rintro ⟨i, hi, h⟩; exact ⟨i, hi, by rw [key i hi]; exact h⟩
/-- A word of one part is a row of words. -/
theorem star_one {α : Type} {p : List α → Bool} {w : List α} (hw : w ≠ []) (h : p w = true) : starB p w = true := by
  obtain ⟨n, hn⟩ : ∃ n, w.length = n + 1 := ⟨w.length - 1, by have := List.length_pos_iff.2 hw; omega⟩
  have h0 : (starE p w n).getD 0 false = true := by
    have : ∀ k, (starE p w k).getD 0 false = true := by
      intro k
      induction k with
      | zero => rfl
      | succ k ih =>
        have hl : 0 < (starE p w k).length := by
          cases k with
          | zero => simp [starE]
          | succ k => simp [starE]
        rw [starE, List.getD_eq_getElem?_getD, List.getElem?_append_left hl, ← List.getD_eq_getElem?_getD]
        exact ih
    exact this n
  have hlen : ∀ k, (starE p w k).length = k + 1 := by
    intro k
    induction k with
    | zero => rfl
    | succ k ih => simp [starE, ih]
  unfold starB
  rw [hn, starE, List.getD_eq_getElem?_getD, List.getElem?_append_right (by rw [hlen]; omega), hlen]
  simp only [Nat.sub_self, List.getElem?_cons_zero, Option.getD_some, List.any_eq_true]
  refine ⟨0, by simp, ?_⟩
  rw [h0, Bool.true_and, ← hn]
  unfold part
  simpa using h
theorem plus_same {α : Type} [BEq α] [LawfulBEq α] (p : List α → Bool) (w : List α) : ((w == [] && p w) || (!(w == []) && starB p w)) = ((!(w == []) && starB p w) || p w) := by
  cases hw : (w == []) with
  | true => simp
  | false =>
    have hne : w ≠ [] := by rintro rfl; simp at hw
    cases hp : p w with
    | false => simp
    | true => simp [star_one hne hp]
/-! ### Bits -/
theorem bit_cases (m i : Nat) : (m >>> i) % 2 = 0 ∨ (m >>> i) % 2 = 1 := by omega
theorem bit_test (m i : Nat) : (m >>> i) % 2 = 1 ↔ m.testBit i = true := by
  rw [Nat.testBit, Nat.and_comm, Nat.and_one_is_mod]
  simp
theorem bit_flip {n m i : Nat} (hm : m < 2 ^ n) (hi : i < n) : ((2 ^ n - (m + 1)) >>> i) % 2 = 0 ↔ (m >>> i) % 2 = 1 := by
  have h1 := Nat.testBit_two_pow_sub_succ hm i
  have h2 := bit_test m i
  have h3 := bit_test (2 ^ n - (m + 1)) i
  have h4 := bit_cases (2 ^ n - (m + 1)) i
  rw [h2]
  cases hb : m.testBit i with
  | true =>
    rw [hb] at h1
    simp at h1
    rw [h1] at h3
    simp at h3
    simp
    omega
  | false =>
    rw [hb] at h1
    simp [hi] at h1
    rw [h1] at h3
    simp at h3
    simp
    omega
theorem flip_lt {n m : Nat} (hm : m < 2 ^ n) : 2 ^ n - (m + 1) < 2 ^ n := by have := Nat.two_pow_pos n; omega
theorem flip_flip {n m : Nat} (hm : m < 2 ^ n) : 2 ^ n - (2 ^ n - (m + 1) + 1) = m := by omega
theorem cut_flip {f : Bs → UInt8} {w : List Bs} {m : Nat} (hm : m < 2 ^ w.length) : ∀ i, i ≤ w.length → cutTo (2 ^ w.length - (m + 1)) (w.map f) i = ⟨(cutToR m w i).a.map f, (cutToR m w i).b.map f, (cutToR m w i).rs.map (List.map f)⟩ := by
  intro i
  induction i with
  | zero => intro _; rfl
  | succ i ih =>
    intro hi
    simp only [cutTo, cutToR, ih (by omega), cutAdd, cutAddR]
    have hc : (w.map f).getD i 0 = f (w.getD i []) := by
      simp [List.getD_eq_getElem?_getD, List.getElem?_eq_getElem (show i < w.length by omega)]
    rw [hc]
    have hb := bit_flip hm (i := i) (by omega)
    by_cases h1 : (m >>> i) % 2 = 1
    · rw [if_pos (hb.2 h1), if_pos h1]
      simp
    · rw [if_neg (fun h => h1 (hb.1 h)), if_neg h1]
      have e : ∀ l : List (List Bs), (l.map (List.map f)).getLastD [] = (l.getLastD []).map f := by
        intro l
        rw [List.getLastD_eq_getLast?, List.getLastD_eq_getLast?, List.getLast?_map]
        cases l.getLast? <;> rfl
      rw [e]
      simp [List.map_dropLast]
theorem cutR_sub (m : Nat) (w : List Bs) : ∀ i, i ≤ w.length → (cutToR m w i).a.Sublist (w.take i) ∧ (cutToR m w i).b.Sublist (w.take i) ∧ (∀ r, r ∈ (cutToR m w i).rs → r.Sublist (w.take i)) ∧ (cutToR m w i).rs ≠ [] := by
  intro i
  induction i with
  | zero => intro _; simp [cutToR]
  | succ i ih =>
    intro hi
    obtain ⟨h1, h2, h3, h4⟩ := ih (by omega)
    have ht : w.take (i + 1) = w.take i ++ [w.getD i []] := by
      rw [List.take_add_one]
      simp [List.getD_eq_getElem?_getD, List.getElem?_eq_getElem (show i < w.length by omega)]
    have hw : (w.take i).Sublist (w.take i ++ [w.getD i []]) := List.sublist_append_left _ _
    simp only [cutToR, cutAddR]
    rw [ht]
    split
    · refine ⟨h1.append (List.Sublist.refl _), h2.trans hw, fun r hr => ?_, by simp⟩
      rcases List.mem_append.1 hr with hr | hr
      · exact (h3 r hr).trans hw
      · simp only [List.mem_singleton] at hr; subst hr; exact List.nil_sublist _
    · refine ⟨h1.trans hw, h2.append (List.Sublist.refl _), fun r hr => ?_, by simp⟩
      rcases List.mem_append.1 hr with hr | hr
      · exact (h3 r (List.dropLast_subset _ hr)).trans hw
      · simp only [List.mem_singleton] at hr
        subst hr
        refine List.Sublist.append ?_ (List.Sublist.refl _)
        rw [List.getLastD_eq_getLast?]
        cases hl : (cutToR m w i).rs.getLast? with
        | none => exact List.nil_sublist _
        | some x => exact h3 x (List.mem_of_getLast? hl)
theorem cutR_full (m : Nat) (w : List Bs) : (cutToR m w w.length).a.Sublist w ∧ (cutToR m w w.length).b.Sublist w ∧ ∀ r, r ∈ (cutToR m w w.length).rs → r.Sublist w := by
  have h := cutR_sub m w w.length (Nat.le_refl _)
  rw [List.take_length] at h
  exact ⟨h.1, h.2.1, h.2.2.1⟩
section
variable {f : Bs → UInt8} {w : List Bs} {p q : List Bs → Bool} {p' q' : Bs → Bool}
theorem row_flip {op : Int} (hp : Alike f w p' p) (hq : Alike f w q' q) {m : Nat} (hm : m < 2 ^ w.length) :
    rowB op p' q' (2 ^ w.length - (m + 1)) (w.map f) = (p (cutToR m w w.length).a && ((op == 15 && q (cutToR m w w.length).b) || (op == 13 && (cutToR m w w.length).rs.all (starB q)))) := by
  obtain ⟨h1, h2, h3⟩ := cutR_full m w
  simp only [rowB, List.length_map]
  rw [cut_flip hm _ (Nat.le_refl _)]
  simp only
  rw [hp _ h1, hq _ h2]
  congr 2
  congr 1
  rw [List.all_map]
  rw [Bool.eq_iff_iff, List.all_eq_true, List.all_eq_true]
  constructor
  · intro h r hr
    have := h r hr
    simp only [Function.comp] at this
    rw [starB_map (hq.sub (h3 r hr))] at this
    exact this
  · intro h r hr
    simp only [Function.comp]
    rw [starB_map (hq.sub (h3 r hr))]
    exact h r hr
theorem rows_flip {op : Int} (hp : Alike f w p' p) (hq : Alike f w q' q) : rowsB op p' q' (w.map f) = (List.range (2 ^ w.length)).any fun m => (p (cutToR m w w.length).a && ((op == 15 && q (cutToR m w w.length).b) || (op == 13 && (cutToR m w w.length).rs.all (starB q)))) := by
  unfold rowsB
  rw [List.length_map, Bool.eq_iff_iff, List.any_eq_true, List.any_eq_true]
  constructor
  · rintro ⟨m, hm, h⟩
    have hm : m < 2 ^ w.length := by simpa using hm
    refine ⟨2 ^ w.length - (m + 1), by simpa using flip_lt hm, ?_⟩
    rw [← row_flip hp hq (flip_lt hm), flip_flip hm]
    exact h
  · rintro ⟨m, hm, h⟩
    have hm : m < 2 ^ w.length := by simpa using hm
    refine ⟨2 ^ w.length - (m + 1), by simpa using flip_lt hm, ?_⟩
    rw [row_flip hp hq hm]
    exact h
theorem shuf_map (hp : Alike f w p' p) (hq : Alike f w q' q) : rowsB 15 p' q' (w.map f) = shufR p q w := by
  rw [rows_flip hp hq]
  unfold shufR
  congr 1
  funext m
  simp
theorem ign_map (hp : Alike f w p' p) (hq : Alike f w q' q) : rowsB 13 p' q' (w.map f) = ignR p q w := by
  rw [rows_flip hp hq]
  unfold ignR
  simp
theorem evOp_map {op : Int} {s s' : Bs} {ps' : List (Bs → Bool)} {ps : List (List Bs → Bool)} (h : AllAlike f w ps' ps) (h0 : op = 0 → (w.map f == s') = (w == [s])) : evOp op s' ps' (w.map f) = revOp op s ps w := by
  have hn : ∀ i, Alike f w (nth ps' i) (nth ps i) := nth_map h
  have hw := fun i => hn i w (List.Sublist.refl _)
  have hnil : (w.map f == []) = (w == []) := by cases w <;> rfl
  unfold evOp revOp
  by_cases e0 : op = 0
  · rw [if_pos e0, if_pos e0, h0 e0]
  rw [if_neg e0, if_neg e0]
  by_cases e1 : op = 1
  · rw [if_pos e1, if_pos e1, List.length_map]
  rw [if_neg e1, if_neg e1]
  by_cases e2 : op = 2
  · rw [if_pos e2, if_pos e2, hnil]
  rw [if_neg e2, if_neg e2]
  by_cases e4 : op = 4
  · rw [if_pos e4, if_pos e4, chainB_map h]
  rw [if_neg e4, if_neg e4]
  by_cases e5 : op = 5
  · rw [if_pos e5, if_pos e5, any_map h]
  rw [if_neg e5, if_neg e5]
  by_cases e6 : op = 6
  · rw [if_pos e6, if_pos e6, alls_map h]
  rw [if_neg e6, if_neg e6]
  by_cases e7 : op = 7
  · rw [if_pos e7, if_pos e7, hw, hw]
  rw [if_neg e7, if_neg e7]
  by_cases e8 : op = 8
  · rw [if_pos e8, if_pos e8, starB_map (hn 0)]
  rw [if_neg e8, if_neg e8]
  by_cases e9 : op = 9
  · rw [if_pos e9, if_pos e9, starB_map (hn 0), hw, hnil]
    exact plus_same _ _
  rw [if_neg e9, if_neg e9]
  by_cases e10 : op = 10
  · rw [if_pos e10, if_pos e10, hw, hnil]
  rw [if_neg e10, if_neg e10]
  by_cases e11 : op = 11
  · rw [if_pos e11, if_pos e11, hw]
  rw [if_neg e11, if_neg e11]
  by_cases e12 : op = 12
  · rw [if_pos e12, if_pos e12, has_map (hn 0), within_has]
  rw [if_neg e12, if_neg e12]
  by_cases e14 : op = 14
  · rw [if_pos e14, if_pos e14, only_map (hn 0) (hn 1) (hn 2)]
  rw [if_neg e14, if_neg e14]
  by_cases e13 : op = 13
  · rw [if_pos (.inl e13), if_pos e13]
    subst e13
    exact ign_map (hn 0) (hn 1)
  by_cases e15 : op = 15
  · rw [if_pos (.inr e15), if_neg e13, if_pos e15]
    subst e15
    exact shuf_map (hn 0) (hn 1)
  rw [if_neg (by omega), if_neg e13, if_neg e15]
end
end Go.Proofs.YtgdnhlckodhhgaaGreatDoor

/-
  The reference's asker: its memory, a map from texts to answers.
-/
namespace Go.Proofs.YtgdnhlckodhhgaaGreatDoor
open Go.RowKit
set_option linter.unusedVariables false
set_option linter.unusedSimpArgs false
/-- What is kept is so. -/
def GoodR (V : Bs → Bool) (es : Array MapEntry) : Prop := ∀ x ∈ es.toList, ∃ u : Bs, u.length ≤ 1099511627776 ∧ x.key = .string (bs u) ∧ x.val = .bool (V u)
theorem GoodR.keys {V : Bs → Bool} {es : Array MapEntry} (h : GoodR V es) : ∀ e ∈ es.toList, ∃ l, keyOf Tryz.prog 9 e.key = some l := fun e he => by
  obtain ⟨u, h1, h2, _⟩ := h e he
  rw [h2]; exact skey u h1
set_option maxRecDepth 100000 in
theorem run_lookR {V : Bs → Bool} {b clock : Nat} {u : Bs} {es : Array MapEntry} (hg : GoodR V es) (hu : u.length ≤ 1099511627776) :
    ∃ v f, (∀ w : World, w.heap[b]? = some (.map es clock) → (Instr.lookup 73 (.map (some b)) (.string (bs u)) true).run Tryz.prog w = .ok (.tuple #[.bool v, .bool f]) w) ∧ (f = true → v = V u) := by
  obtain ⟨l, hl⟩ := skey u hu
  have hm : Tryz.prog.underlying 73 = some (.map 9 4) := Tryz.underlying73
  by_cases hx : ∃ e ∈ es.toList, e.key = .string (bs u)
  · refine ⟨V u, true, fun w hb => ?_, fun _ => rfl⟩
    rcases Tryz.slaw.find w hl es.toList hg.keys with ⟨h1, h2⟩ | ⟨j, e, h1, h2, h3⟩
    · obtain ⟨e, he, hx⟩ := hx
      exact absurd hx (h2 e he)
    · obtain ⟨u', _, h4, h5⟩ := hg e (List.mem_of_getElem? h2)
      have h6 := h3.symm.trans h4
      injection h6 with h6
      have := bs_inj h6
      subst this
      simp only [Instr.lookup, Sem.run_bind, run_underlying hm, MapKept.run_getObj_map hb, Tryz.slaw.check w _ hl, h1, Result.andThen, h5, Sem.run_pure]
      rfl
  · refine ⟨false, false, fun w hb => ?_, fun h => by cases h⟩
    rcases Tryz.slaw.find w hl es.toList hg.keys with ⟨h1, h2⟩ | ⟨j, e, h1, h2, h3⟩
    · simp only [Instr.lookup, Sem.run_bind, run_underlying hm, MapKept.run_getObj_map hb, Tryz.slaw.check w _ hl, h1, Result.andThen, run_zero_bool, Sem.run_pure]
      rfl
    · exact absurd ⟨e, List.mem_of_getElem? h2, h3⟩ hx
set_option maxRecDepth 100000 in
theorem run_updR {V : Bs → Bool} {w : World} {b clock : Nat} {u : Bs} {es : Array MapEntry} (hb : w.heap[b]? = some (.map es clock)) (hg : GoodR V es) (hu : u.length ≤ 1099511627776) :
    ∃ es' clock', (Instr.mapUpdate 73 (.map (some b)) (.string (bs u)) (.bool (V u))).run Tryz.prog w = .ok () { w with heap := w.heap.setIfInBounds b (.map es' clock') } ∧ GoodR V es' := by
  obtain ⟨l, hl⟩ := skey u hu
  have hm : Tryz.prog.underlying 73 = some (.map 9 4) := Tryz.underlying73
  rcases Tryz.slaw.find w hl es.toList hg.keys with ⟨h1, h2⟩ | ⟨j, e, h1, h2, h3⟩
  · refine ⟨es.push { key := .string (bs u), val := .bool (V u), born := clock }, clock + 1, ?_, ?_⟩
    · simp only [Instr.mapUpdate, Sem.run_bind, run_underlying hm, MapKept.run_getObj_map hb, Tryz.slaw.check w _ hl, h1, Result.andThen, MapKept.run_setObj_map _ hb]
    · intro x hx
      simp only [Array.toList_push, List.mem_append, List.mem_singleton] at hx
      rcases hx with hx | rfl
      · exact hg x hx
      · exact ⟨u, hu, rfl, rfl⟩
  · have hst := Tryz.slaw.stays w hl
    have hj : es[j]? = some e := by rw [← Array.getElem?_toList]; exact h2
    refine ⟨es.modify j (fun e => { e with key := .string (bs u), val := .bool (V u) }), clock, ?_, ?_⟩
    · simp only [Instr.mapUpdate, Sem.run_bind, run_underlying hm, MapKept.run_getObj_map hb, Tryz.slaw.check w _ hl, h1, Result.andThen, hj, Option.map_some, Option.getD_some, h3, hst, MapKept.run_setObj_map _ hb]
    · intro x hx
      simp only [Array.toList_modify] at hx
      obtain ⟨i, hi, hx⟩ := List.getElem_of_mem hx
      rw [List.getElem_modify] at hx
      split at hx
      · subst hx; exact ⟨u, hu, rfl, rfl⟩
      · subst hx; exact hg _ (List.getElem_mem _)
end Go.Proofs.YtgdnhlckodhhgaaGreatDoor

/-
  The reference's asker: its state, its items in memory; what was asked is kept (the walk of holds, by what find does).
-/
namespace Go.Proofs.YtgdnhlckodhhgaaGreatDoor
open Go.RowKit
set_option linter.unusedVariables false
set_option linter.unusedSimpArgs false
/-- The texts of a word with spaces between them. -/
def jn : List Bs → Bs
  | [] => []
  | [x] => x
  | x :: y :: r => x ++ 32 :: jn (y :: r)
theorem jn_is (u : List Bs) : Lib.join u [32] = jn u := by
  induction u with
  | nil => rfl
  | cons x r ih =>
    cases r with
    | nil => exact Lib.join_one _ _
    | cons y r =>
      rw [jn, ← ih, Lib.join_cons, Lib.join_cons]
      simp [Lib.joinTail]
theorem jn_len {u : List Bs} (h : ∀ x ∈ u, x.length ≤ 16) : (jn u).length ≤ 17 * u.length := by
  induction u with
  | nil => simp [jn]
  | cons x r ih =>
    have h1 := h x (by simp)
    cases r with
    | nil => simp [jn]; omega
    | cons y r =>
      have := ih (fun z hz => h z (by simp [hz]))
      rw [jn]
      simp only [List.length_append, List.length_cons] at this ⊢
      omega
def rkey (k : Nat) (u : List Bs) : Bs := Lib.decDigits k ++ 32 :: jn u
/-- A word that may be asked of. -/
def OkW (L : Nat) (u : List Bs) : Prop := u.length ≤ L ∧ ∀ x ∈ u, rsym x = true
theorem rsym_len {x : Bs} (h : rsym x = true) : x.length ≤ 16 := by
  simp only [rsym, Bool.and_eq_true, Bool.not_eq_true', long, decide_eq_false_iff_not] at h
  omega
theorem OkW.sub {L : Nat} {u v : List Bs} (h : OkW L u) (hv : v.Sublist u) : OkW L v := ⟨Nat.le_trans hv.length_le h.1, fun x hx => h.2 x (hv.subset hx)⟩
/-- A word in memory: a nil slice, or a row of texts. -/
def WvM (M : Heap) (A : Option Addr) (u : List Bs) : Prop := (A = none ∧ u = []) ∨ ∃ b o, A = some ⟨b, o, none⟩ ∧ ∀ j, (h : j < u.length) → cellM M ⟨b, o + j, none⟩ = some (.string (bs u[j]))
theorem WvM.ws {M : Heap} {A : Option Addr} {u : List Bs} (h : WvM M A u) : WsM M A u := fun j hj => by
  rcases h with ⟨_, rfl⟩ | ⟨b, o, rfl, hc⟩
  · simp at hj
  · exact ⟨b, o, rfl, hc j hj⟩
theorem part_length {α : Type} {u : List α} {i k : Nat} (h : k ≤ u.length) : (part u i k).length = k - i := by
  unfold part; rw [List.length_drop, List.length_take, Nat.min_eq_left h]
theorem WvM.cut {M : Heap} {b o : Nat} {u : List Bs} (h : ∀ j, (h : j < u.length) → cellM M ⟨b, o + j, none⟩ = some (.string (bs u[j]))) {i k : Nat} (hk : k ≤ u.length) : WvM M (some ⟨b, o + i, none⟩) (part u i k) := by
  refine .inr ⟨b, o + i, rfl, fun j hj => ?_⟩
  have hl := part_length (i := i) hk
  have e : (part u i k)[j] = u[i + j]'(by omega) := by simp [part]
  rw [e, Nat.add_assoc]
  exact h (i + j) (by omega)
/-- The asker in memory. -/
def AsR (w : World) (M : Heap) (ga gm gi n cap : Nat) (V : Bs → Bool) : Prop := ∃ (es : Array MapEntry) (clock : Nat), Box w M ga #[.slice (some ⟨gi, 0, none⟩) n cap, .map (some gm)] 76 ∧ Blk w M gm (.map es clock) ∧ GoodR V es ∧ ga ≠ gm
theorem AsR.kp {w w1 : World} {M : Heap} {ga gm gi n cap : Nat} {V : Bs → Bool} {S : List Nat} (h : AsR w M ga gm gi n cap V) (k : Kp S w w1) (h1 : ga ∉ S) (h2 : gm ∉ S) : AsR w1 M ga gm gi n cap V := by
  obtain ⟨es, clock, hB, hm, hg, hne⟩ := h
  exact ⟨es, clock, hB.same k h1, hm.same k h2, hg, hne⟩
theorem AsR.lt {w : World} {M : Heap} {ga gm gi n cap : Nat} {V : Bs → Bool} (h : AsR w M ga gm gi n cap V) : ga < w.heap.size ∧ gm < w.heap.size := by
  obtain ⟨es, clock, hB, hm, hg, hne⟩ := h
  exact ⟨hB.lt, hm.lt⟩
/-- A node of an expression among the items. -/
inductive RN (M : Heap) (gi n : Nat) : Nat → E → Prop where
  | mk (k : Nat) (op : Int) (s : Bs) (l : List E) (A : Option Addr) (c : Nat) (kj : Nat → Nat) (hk : k < n) (h0 : cellM M ⟨gi, k * 3, none⟩ = some (.int .i64 op)) (h1 : cellM M ⟨gi, k * 3 + 1, none⟩ = some (.string (bs s))) (h2 : cellM M ⟨gi, k * 3 + 2, none⟩ = some (.slice A l.length c))
      (hrow : ∀ j, (h : j < l.length) → ∃ bb o, A = some ⟨bb, o, none⟩ ∧ cellM M ⟨bb, o + j, none⟩ = some (.int .i64 (kj j : Nat)))
      (hkids : ∀ j, (h : j < l.length) → RN M gi n (kj j) l[j]) (hkj : ∀ j, j < l.length → kj j = k + 1 + sizes (l.take j)) : RN M gi n k (.mk op s l)
def HR (M : Heap) (ga gm gi n cap : Nat) (V : Bs → Bool) (w : World) (r : Bool) (e : Ending) (w' : World) : Prop := e = .returned (.bool r) ∧ Mem w' M ∧ AsR w' M ga gm gi n cap V ∧ Kp [gm] w w'
/-- holds at a node. -/
def RH (ga gm gi n cap : Nat) (V : Bs → Bool) (L k : Nat) (e : E) : Prop := ∀ (M : Heap) (u : List Bs) (A : Option Addr) (c : Nat) (w : World), RN M gi n k e → WvM M A u → u.length ≤ c → OkW L u → Mem w M → AsR w M ga gm gi n cap V →
  Calls Tryz.prog 50 #[.pointer (some ⟨ga, 0, none⟩), .int .i64 (k : Nat), .slice A u.length c] w (HR M ga gm gi n cap V w (rev e u))
/-- find at a node. -/
def RF (ga gm gi n cap : Nat) (V : Bs → Bool) (L k : Nat) (e : E) : Prop := ∀ (M : Heap) (u : List Bs) (A Ak : Option Addr) (c ck : Nat) (w : World), RN M gi n k e → cellM M ⟨gi, k * 3 + 2, none⟩ = some (.slice Ak e.l.length ck) → WvM M A u → u.length ≤ c → OkW L u → Mem w M → AsR w M ga gm gi n cap V →
  Calls Tryz.prog 91 #[.pointer (some ⟨ga, 0, none⟩), .agg #[.int .i64 e.op, .string (bs e.s), .slice Ak e.l.length ck], .slice A u.length c] w (HR M ga gm gi n cap V w (rev e u))
theorem Join_calls {M : Heap} {A : Option Addr} {c : Nat} {u : List Bs} (h : WsM M A u) (hc : u.length ≤ c) (hl : u.length ≤ 1000) (hs : ∀ x ∈ u, x.length ≤ 16) (w : World) (hM : Mem w M) :
    Calls Tryz.prog 90 #[.slice A u.length c, .string ⟨#[32]⟩] w fun e w' => e = .returned (.string (bs (jn u))) ∧ Kp [] w w' := by
  by_cases h0 : u.length = 0
  · have hu : u = [] := List.length_eq_zero_iff.1 h0
    subst hu
    exact (Tryz.strings_Join_none A c ⟨#[32]⟩ w).mono (fun e w' h => ⟨h.1, by rw [h.2]; exact Kp.refl _ _⟩)
  · obtain ⟨bb, o, rfl, hcell⟩ := h.place (by omega)
    have e1 : (u.map bs).map (·.data.toList) = u := by rw [List.map_map]; exact (List.map_congr_left (fun x _ => by simp [bs])).trans (List.map_id _)
    have e2 : (⟨#[32]⟩ : ByteArray).data.toList = [32] := rfl
    have hj := jn_len hs
    have H := Tryz.strings_Join bb o c (u.map bs) ⟨#[32]⟩ w (fun j x hx => by
      rw [List.getElem?_map] at hx
      cases hj : u[j]? with
      | none => rw [hj] at hx; cases hx
      | some y =>
        rw [hj] at hx
        simp only [Option.map_some, Option.some.injEq] at hx
        obtain ⟨hlt, he⟩ := List.getElem?_eq_some_iff.1 hj
        rw [← hx, ← he]
        exact hM.cell (hcell j hlt)) (World.block_lt_of_cell? w _ (hM.cell (hcell 0 (by omega)))) (by simp; omega) (by simpa using hc) (by rw [e1, e2, jn_is]; omega)
    rw [List.length_map] at H
    refine H.mono (fun e w' h => ⟨?_, Kp.of_below h.2⟩)
    rw [h.1, e1, e2, jn_is]; rfl
end Go.Proofs.YtgdnhlckodhhgaaGreatDoor

/-
  The reference's asker: holds, by what find does.
-/
namespace Go.Proofs.YtgdnhlckodhhgaaGreatDoor
open Go.RowKit
set_option linter.unusedVariables false
set_option linter.unusedSimpArgs false
theorem RN.cells {M : Heap} {gi n k : Nat} {e : E} (h : RN M gi n k e) : k < n ∧ ∃ (A : Option Addr) (c : Nat) (kj : Nat → Nat), cellM M ⟨gi, k * 3, none⟩ = some (.int .i64 e.op) ∧ cellM M ⟨gi, k * 3 + 1, none⟩ = some (.string (bs e.s)) ∧ cellM M ⟨gi, k * 3 + 2, none⟩ = some (.slice A e.l.length c) ∧
    (∀ j, (h : j < e.l.length) → ∃ bb o, A = some ⟨bb, o, none⟩ ∧ cellM M ⟨bb, o + j, none⟩ = some (.int .i64 (kj j : Nat))) ∧ ∀ j, (h : j < e.l.length) → RN M gi n (kj j) e.l[j] := by
  cases h with
  | mk k op s l A c kj hk h0 h1 h2 hrow hkids hkj => exact ⟨hk, A, c, kj, h0, h1, h2, hrow, hkids⟩
theorem RN.kids {M : Heap} {gi n k : Nat} {e : E} (h : RN M gi n k e) : k < n ∧ ∃ (A : Option Addr) (c : Nat), cellM M ⟨gi, k * 3, none⟩ = some (.int .i64 e.op) ∧ cellM M ⟨gi, k * 3 + 1, none⟩ = some (.string (bs e.s)) ∧ cellM M ⟨gi, k * 3 + 2, none⟩ = some (.slice A e.l.length c) ∧
    (∀ j, (h : j < e.l.length) → ∃ bb o, A = some ⟨bb, o, none⟩ ∧ cellM M ⟨bb, o + j, none⟩ = some (.int .i64 (((k + 1 + sizes (e.l.take j) : Nat)) : Int))) ∧ ∀ j, (h : j < e.l.length) → RN M gi n (k + 1 + sizes (e.l.take j)) e.l[j] := by
  cases h with
  | mk k op s l A c kj hk h0 h1 h2 hrow hkids hkj =>
    refine ⟨hk, A, c, h0, h1, h2, fun j hj => ?_, fun j hj => ?_⟩
    · have := hrow j hj; rw [hkj j hj] at this; exact this
    · have := hkids j hj; rw [hkj j hj] at this; exact this
theorem dec_len {k : Nat} (hk : k < 100) : (Lib.decDigits k).length ≤ 2 := by
  by_cases h : k < 10
  · rw [Lib.decDigits_one h]; simp
  · rw [Lib.decDigits_two h hk]; simp
set_option maxRecDepth 100000 in
set_option maxHeartbeats 4000000 in
theorem holds_of_find {ga gm gi n cap L k : Nat} {V : Bs → Bool} {e : E} (hL : L ≤ 60) (hn : n ≤ 40) (hnc : n ≤ cap) (hV : ∀ u, OkW L u → V (rkey k u) = rev e u) (hf : RF ga gm gi n cap V L k e) : RH ga gm gi n cap V L k e := by
  intro M u A c w hrn hws hc hok hM hA
  obtain ⟨hkn, Ak, ck, kj, h0, h1, h2, hrow, hkids⟩ := hrn.cells
  obtain ⟨hga, hgm⟩ := hA.lt
  have hk100 : k < 100 := by omega
  have hul : u.length ≤ 60 := Nat.le_trans hok.1 hL
  have hdl := dec_len hk100
  have hx16 : ∀ x ∈ u, x.length ≤ 16 := fun x hx => rsym_len (hok.2 x hx)
  have hjl := jn_len hx16
  have hsz1 := bs_size (Lib.decDigits k)
  have hsz2 := bs_size (Lib.decDigits k ++ [32])
  have hsz3 := bs_size (jn u)
  have hl2 : (Lib.decDigits k ++ [32]).length ≤ 3 := by simp; omega
  have hc1 : bs (Lib.decDigits k) ++ (⟨#[32]⟩ : ByteArray) = bs (Lib.decDigits k ++ [32]) := bs_cat _ [32]
  have hc2 : bs (Lib.decDigits k ++ [32]) ++ bs (jn u) = bs (rkey k u) := by rw [bs_cat, rkey, List.append_assoc]; rfl
  have hs32 : (⟨#[32]⟩ : ByteArray).size = 1 := rfl
  have hrl : (rkey k u).length ≤ 1099511627776 := by
    unfold rkey
    simp only [List.length_append, List.length_cons]; omega
  have HI : Hid (∀ w, Calls Tryz.prog 89 #[.int .i64 (k : Nat)] w fun e w' => e = .returned (.string (bs (Lib.decDigits k))) ∧ w' = w) := Hid.mk (fun w => Tryz.strconv_Itoa_small k hk100 w)
  have HJ := Hid.mk (Join_calls hws.ws hc (by omega) hx16 w hM)
  have HVK := Hid.mk (hV u hok)
  have HF := Hid.mk (fun w (hM : Mem w M) hA => hf M u A Ak c ck w hrn h2 hws hc hok hM hA)
  have HC := Hid.mk (And.intro h0 (And.intro h1 h2))
  have HA := Hid.mk (And.intro hM hA)
  have hki : (k : Int) < (n : Int) := by omega
  clear hV hf hrn hws hc hok hM hA h0 h1 h2 hrow hkids hx16
  generalize Lib.decDigits k = dk at *
  generalize dk ++ [32] = dk2 at *
  generalize rkey k u = key at *
  generalize jn u = ju at *
  go_enter Tryz.func50, Tryz.ntmps50
  go_wp2_with fail
  refine (HI.out _).mono ?_
  rintro en w1 ⟨rfl, rfl⟩
  go_wp2_with fail
  refine HJ.out.mono ?_
  rintro en w2 ⟨rfl, hk2⟩
  have hM2 := HA.out.1.kp hk2 (by simp)
  have hA2 := HA.out.2.kp hk2 (by simp) (by simp)
  obtain ⟨es, clock, hB, hm, hg, hne⟩ := hA2
  obtain ⟨v, f, hlook, hfv⟩ := run_lookR (b := gm) (clock := clock) hg hrl
  have hlk := hlook w2 hm.blk
  have q0 : w2.cell? ⟨ga, 0, none⟩ = some (.slice (some ⟨gi, 0, none⟩) n cap) := hB.cell 0
  have q1 : w2.cell? ⟨ga, 1, none⟩ = some (.map (some gm)) := hB.cell 1
  have r0 := hM2.cell HC.out.1
  have r1 := hM2.cell HC.out.2.1
  have r2 := hM2.cell HC.out.2.2
  have H2 := Hid.mk (And.intro hM2 (And.intro (show AsR w2 M ga gm gi n cap V from ⟨es, clock, hB, hm, hg, hne⟩) hk2))
  clear hM2 hB hm hg hne hk2 hlook
  cases f with
  | true =>
    have HX := Hid.mk ((hfv rfl).trans HVK.out)
    clear hfv
    go_wp2_with fail
    go_ret
    exact ⟨ret_bool HX.out, H2.out.1, H2.out.2.1, H2.out.2.2.mono (by simp)⟩
  | false =>
    clear hfv
    go_wp2_with fail
    refine (HF.out w2 H2.out.1 H2.out.2.1).mono ?_
    rintro en w3 ⟨rfl, hM3, hA3, hk3⟩
    obtain ⟨es3, clock3, hB3, hm3, hg3, hne3⟩ := hA3
    have s1 : w3.cell? ⟨ga, 1, none⟩ = some (.map (some gm)) := hB3.cell 1
    obtain ⟨es4, clock4, hupd, hg4⟩ := run_updR (w := w3) hm3.blk hg3 hrl
    rw [HVK.out] at hupd
    have H3 := Hid.mk (And.intro hM3 (And.intro hB3 (And.intro hm3 (And.intro hg4 (And.intro hne3 ((H2.out.2.2.mono (by simp)).trans hk3))))))
    clear hM3 hB3 hm3 hg3 hne3 hk3 hg4 hlk q0 q1 r0 r1 r2
    go_wp2_with fail
    go_ret
    obtain ⟨hM3, hB3, hm3, hg4, hne3, hk3⟩ := H3.out
    have hks : Kp [gm] w3 { w3 with heap := w3.heap.setIfInBounds gm (.map es4 clock4) } := (Kp.refl [gm] w3).setObj _ (.inl (by simp))
    refine ⟨rfl, hM3.kp hks (by simpa using hm3.out), ⟨es4, clock4, hB3.same hks (by simp [hne3]), ⟨?_, hm3.out⟩, hg4, hne3⟩, hk3.trans hks⟩
    show (w3.heap.setIfInBounds gm _)[gm]? = _
    rw [Array.getElem?_setIfInBounds_self, if_pos (show gm < w3.heap.size from hm3.lt)]
end Go.Proofs.YtgdnhlckodhhgaaGreatDoor
