/-
  Plain Lean, no program: the grammar of expressions' texts as functions on lists of bytes (tokens, the reader's levels), and what they answer.
-/
namespace Go.Proofs.YtgdnhlckodhhgaaGreatDoor
abbrev Bs := List UInt8
/-- A node of an expression. -/
inductive E where
  | mk (op : Int) (s : Bs) (l : List E)
instance : Inhabited E := ⟨.mk 0 [] []⟩
def E.op : E → Int | .mk o _ _ => o
def E.s : E → Bs | .mk _ s _ => s
def E.l : E → List E | .mk _ _ l => l
theorem E.eta (e : E) : E.mk e.op e.s e.l = e := by cases e; rfl

def isNameI (c : Int) : Bool := (decide (97 ≤ c) && decide (c ≤ 122)) || (decide (65 ≤ c) && decide (c ≤ 90)) || (decide (48 ≤ c) && decide (c ≤ 57))
def isSignI (c : Int) : Bool := decide (32 < c) && decide (c < 127) && !(c == 60) && !(c == 62)
def cod (c : UInt8) : Int := (c.toNat : Int)
def nameB (c : UInt8) : Bool := isNameI (cod c)
def signB (c : UInt8) : Bool := isSignI (cod c)
/-- The signs of one byte. -/
def marks : Bs := [95, 45, 124, 38, 37, 47, 126, 36, 42, 43, 63, 46, 33, 91, 93]
def sk (r : Bs) : Bs := r.dropWhile (· == 32)
/-- How many bytes of a symbol stand ahead. -/
def run (r : Bs) : Nat := (r.takeWhile signB).length
/-- The token that a text begins with: none where it is wrong. -/
def tk (r : Bs) : Option Bs :=
  match r with
  | [] => some []
  | c :: r' =>
    if (c :: r').take 2 = [61, 62] ∨ (c :: r').take 2 = [91, 93] then some ((c :: r').take 2)
    else if nameB c = true ∨ c ∈ marks then some [c]
    else if c = 92 ∧ r' ≠ [] ∧ signB (r'.headD 0) = true ∧ nameB (r'.headD 0) = false then some ((c :: r').take 2)
    else if c = 60 ∧ 2 ≤ run r' ∧ run r' ≤ 16 ∧ (r'.drop (run r')).headD 0 = 62 ∧ run r' < r'.length then some ((c :: r').take (run r' + 2))
    else none
abbrev Ex (α : Type) := Except Bs α
def token (r : Bs) : Ex (Bs × Bs) := match tk (sk r) with | none => .error (sk r) | some u => .ok (u, sk r)
def takeT (t r : Bs) : Ex (Bool × Bs) := match tk (sk r) with | none => .error (sk r) | some u => if u = t then .ok (true, (sk r).drop t.length) else .ok (false, sk r)
/-- Whether a thing of a chain begins with a token. -/
def begT (t : Bs) : Bool := match t with | [] => false | c :: t' => !(t == [61, 62]) && (!t'.isEmpty || nameB c || c == 126 || c == 36 || c == 46 || c == 33 || c == 91)
abbrev Res := Option (Ex (E × Bs))
def bx {α β : Type} (x : Option (Ex α)) (f : α → Option (Ex β)) : Option (Ex β) := match x with | none => none | some (.error q) => some (.error q) | some (.ok a) => f a
def lf {α β : Type} (x : Ex α) (f : α → Option (Ex β)) : Option (Ex β) := match x with | .error q => some (.error q) | .ok a => f a
def noneE : E := .mk 2 [] []
/-- A list of one stands for it. -/
def one (op : Int) (l : List E) : E := match l with | [x] => x | l => .mk op [] l
def sgn : Nat → Bs | 1 => [45] | 2 => [124] | 3 => [38] | 4 => [37] | _ => [47]
def opn : Nat → Int | 1 => 7 | 2 => 5 | 3 => 6 | 4 => 15 | _ => 13
def behindOp (t : Bs) : Option Int := if t = [42] then some 8 else if t = [43] then some 9 else if t = [63] then some 10 else none
inductive Task where
  | lv (n : Nat) (r : Bs)
  | left (n : Nat) (a : E) (r : Bs)
  | all (n : Nat) (acc : List E) (r : Bs)
  | chain (acc : List E) (r : Bs)
  | behind (a : E) (r : Bs)
/-- An atom that is one token. -/
def leaf (t : Bs) : Option E :=
  if t = [46] then some (.mk 1 [] []) else if t = [91, 93] then some noneE else if t = [33] then some (.mk 3 [] [])
  else if t = [91] then none else if t.head? = some 92 then some (.mk 0 (t.drop 1) []) else if t.head? = some 60 then some (.mk 0 ((t.drop 1).take (t.length - 2)) []) else some (.mk 0 t [])
/-- The reader: levels 0 (only), 1 (but), 2 (or), 3 (and), 4 (shuffle), 5 (ignore), 6 (chain), 7 (ahead), 8 (atom), and their loops. -/
def G : Nat → Task → Res
  | 0, _ => none
  | k + 1, .lv 0 r => bx (G k (.lv 1 r)) fun (a, r1) => lf (takeT [61, 62] r1) fun (b, r2) =>
      if b = false then some (.ok (a, r2)) else lf (token r2) fun (t, r3) => bx (if t = [95] then some (.ok (noneE, r3)) else G k (.lv 1 r3)) fun (x, r4) =>
      lf (takeT [95] r4) fun (b, r5) => if b = false then some (.error r5) else lf (token r5) fun (t, r6) =>
      bx (if t = [] ∨ t = [93] then some (.ok (noneE, r6)) else G k (.lv 1 r6)) fun (y, r7) => some (.ok (.mk 14 [] [a, x, y], r7))
  | k + 1, .lv 1 r => bx (G k (.lv 2 r)) fun (a, r1) => G k (.left 1 a r1)
  | k + 1, .lv 2 r => bx (G k (.lv 3 r)) fun (a, r1) => G k (.all 2 [a] r1)
  | k + 1, .lv 3 r => bx (G k (.lv 4 r)) fun (a, r1) => G k (.all 3 [a] r1)
  | k + 1, .lv 4 r => bx (G k (.lv 5 r)) fun (a, r1) => G k (.left 4 a r1)
  | k + 1, .lv 5 r => bx (G k (.lv 6 r)) fun (a, r1) => G k (.left 5 a r1)
  | k + 1, .lv 6 r => bx (G k (.lv 7 r)) fun (a, r1) => G k (.chain [a] r1)
  | k + 1, .lv 7 r => lf (token r) fun (t, r1) => if t = [126] then bx (G k (.lv 7 (r1.drop 1))) fun (x, r2) => some (.ok (.mk 11 [] [x], r2))
      else if t = [36] then bx (G k (.lv 7 (r1.drop 1))) fun (x, r2) => some (.ok (.mk 12 [] [x], r2)) else bx (G k (.lv 8 r1)) fun (a, r2) => G k (.behind a r2)
  | k + 1, .lv _ r => lf (token r) fun (t, r1) => if begT t = false then some (.error r1) else match leaf t with
      | some e => some (.ok (e, r1.drop t.length))
      | none => bx (G k (.lv 0 (r1.drop 1))) fun (a, r2) => lf (takeT [93] r2) fun (b, r3) => if b = false then some (.error r3) else some (.ok (a, r3))
  | k + 1, .left n a r => lf (takeT (sgn n) r) fun (b, r1) => if b = false then some (.ok (a, r1)) else bx (G k (.lv (n + 1) r1)) fun (x, r2) => G k (.left n (.mk (opn n) [] [a, x]) r2)
  | k + 1, .all n acc r => lf (takeT (sgn n) r) fun (b, r1) => if b = false then some (.ok (one (opn n) acc, r1)) else bx (G k (.lv (n + 1) r1)) fun (x, r2) => G k (.all n (acc ++ [x]) r2)
  | k + 1, .chain acc r => lf (token r) fun (t, r1) => if begT t = true then bx (G k (.lv 7 r1)) fun (x, r2) => G k (.chain (acc ++ [x]) r2) else some (.ok (one 4 acc, r1))
  | k + 1, .behind a r => lf (token r) fun (t, r1) => match behindOp t with | some o => G k (.behind (.mk o [] [a]) (r1.drop 1)) | none => some (.ok (a, r1))
end Go.Proofs.YtgdnhlckodhhgaaGreatDoor

/-
  Plain Lean: which words a node holds, as functions on lists of bytes.
-/
namespace Go.Proofs.YtgdnhlckodhhgaaGreatDoor
/-- A node with its number; a symbol is the byte of its number. -/
inductive Nd where
  | mk (num : Nat) (op : Int) (s : Bs) (l : List Nd)
instance : Inhabited Nd := ⟨.mk 0 0 [] []⟩
def Nd.num : Nd → Nat | .mk k _ _ _ => k
def Nd.op : Nd → Int | .mk _ o _ _ => o
def Nd.s : Nd → Bs | .mk _ _ s _ => s
def Nd.l : Nd → List Nd | .mk _ _ _ l => l
theorem Nd.eta (n : Nd) : Nd.mk n.num n.op n.s n.l = n := by cases n; rfl
section
variable {α : Type}
/-- A part of a word. -/
def part (w : List α) (i k : Nat) : List α := (w.take k).drop i
/-- Where a row of words, each one of p, may end: the first ends. -/
def starE (p : List α → Bool) (w : List α) : Nat → List Bool
  | 0 => [true]
  | k + 1 => starE p w k ++ [(List.range (k + 1)).any fun i => (starE p w k).getD i false && p (part w i (k + 1))]
def starB (p : List α → Bool) (w : List α) : Bool := (starE p w w.length).getD w.length false
def chainStep (p : List α → Bool) (w : List α) (es : List Bool) : List Bool := (List.range (w.length + 1)).map fun k => (List.range (k + 1)).any fun i => es.getD i false && p (part w i k)
def chainE (w : List α) : List (List α → Bool) → List Bool → List Bool
  | [], es => es
  | p :: ps, es => chainE w ps (chainStep p w es)
def start (w : List α) : List Bool := true :: List.replicate w.length false
def chainB (ps : List (List α → Bool)) (w : List α) : Bool := (chainE w ps (start w)).getD w.length false
def endsB (p : List α → Bool) (w : List α) : Bool := (List.range (w.length + 1)).any fun i => p (w.drop i)
def beginsB (p : List α → Bool) (w : List α) : Bool := (List.range (w.length + 1)).any fun i => p (w.take i)
def hasB (p : List α → Bool) (w : List α) : Bool := (List.range (w.length + 1)).any fun i => beginsB p (w.drop i)
def onlyB (p q r : List α → Bool) (w : List α) : Bool := (List.range (w.length + 1)).all fun i => (List.range (w.length + 1 - i)).all fun j => !(p (part w i (i + j)) && !(endsB q (w.take i) && beginsB r (w.drop (i + j))))
end
/-- A word cut into two by a number's bits: the first row, the second one, its runs. -/
structure Cut where
  a : Bs
  b : Bs
  rs : List Bs
def cutAdd (m i : Nat) (c : UInt8) (x : Cut) : Cut := if (m >>> i) % 2 = 0 then ⟨x.a ++ [c], x.b, x.rs ++ [[]]⟩ else ⟨x.a, x.b ++ [c], x.rs.dropLast ++ [x.rs.getLastD [] ++ [c]]⟩
def cutTo (m : Nat) (w : Bs) : Nat → Cut
  | 0 => ⟨[], [], [[]]⟩
  | i + 1 => cutAdd m i (w.getD i 0) (cutTo m w i)
def rowB (op : Int) (p q : Bs → Bool) (m : Nat) (w : Bs) : Bool :=
  let x := cutTo m w w.length
  p x.a && ((op == 15 && q x.b) || (op == 13 && x.rs.all (starB q)))
def rowsB (op : Int) (p q : Bs → Bool) (w : Bs) : Bool := (List.range (2 ^ w.length)).any fun m => rowB op p q m w
def nth {α : Type} (ps : List (List α → Bool)) (i : Nat) : List α → Bool := ps.getD i (fun _ => false)
def evOp (op : Int) (s : Bs) (ps : List (Bs → Bool)) (w : Bs) : Bool :=
  if op = 0 then w == s
  else if op = 1 then w.length == 1
  else if op = 2 then w == []
  else if op = 4 then chainB ps w
  else if op = 5 then ps.any (fun p => p w)
  else if op = 6 then ps.all (fun p => p w)
  else if op = 7 then nth ps 0 w && !nth ps 1 w
  else if op = 8 then starB (nth ps 0) w
  else if op = 9 then (w == [] && nth ps 0 w) || (!(w == []) && starB (nth ps 0) w)
  else if op = 10 then w == [] || nth ps 0 w
  else if op = 11 then !nth ps 0 w
  else if op = 12 then hasB (nth ps 0) w
  else if op = 14 then onlyB (nth ps 0) (nth ps 1) (nth ps 2) w
  else if op = 13 ∨ op = 15 then rowsB op (nth ps 0) (nth ps 1) w
  else false
mutual
def ev : Nd → Bs → Bool
  | .mk _ op s l => evOp op s (evs l)
def evs : List Nd → List (Bs → Bool)
  | [] => []
  | a :: l => ev a :: evs l
end
/-- The document's example. -/
def exNd : Nd := .mk 0 13 [] [.mk 1 4 [] [.mk 2 0 [0] [], .mk 3 0 [1] []], .mk 4 0 [2] []]
theorem ex_is : ev exNd [2, 0, 2, 2, 1] = true := by decide +kernel
end Go.Proofs.YtgdnhlckodhhgaaGreatDoor

/-
  Plain Lean: where words one behind the other may end, step by step.
-/
namespace Go.Proofs.YtgdnhlckodhhgaaGreatDoor
section
variable {α : Type}
def stepF (p : List α → Bool) (w : List α) (f : Nat → Bool) (m : Nat) : Bool := (List.range (m + 1)).any fun i => f i && p (part w i m)
def Cf (w : List α) : List (List α → Bool) → (Nat → Bool) → Nat → Bool
  | [], f => f
  | p :: ps, f => Cf w ps (stepF p w f)
theorem Cf_snoc (w : List α) (p : List α → Bool) (ps : List (List α → Bool)) : ∀ f, Cf w (ps ++ [p]) f = stepF p w (Cf w ps f) := by
  induction ps with
  | nil => intro f; rfl
  | cons q ps ih => intro f; exact ih _
def begF (m : Nat) : Bool := m == 0
theorem rangeD {f : Nat → Bool} {n i : Nat} (h : i < n) : ((List.range n).map f).getD i false = f i := by
  rw [List.getD_eq_getElem?_getD, List.getElem?_map, List.getElem?_range h]; rfl
theorem chainStep_eq (p : List α → Bool) (w : List α) (f : Nat → Bool) : chainStep p w ((List.range (w.length + 1)).map f) = (List.range (w.length + 1)).map (stepF p w f) := by
  unfold chainStep
  apply List.map_congr_left
  intro m hm
  have hm : m < w.length + 1 := by simpa using hm
  rw [stepF, Bool.eq_iff_iff, List.any_eq_true, List.any_eq_true]
  constructor
  · rintro ⟨i, hi, hx⟩
    rw [rangeD (by simp at hi; omega)] at hx
    exact ⟨i, hi, hx⟩
  · rintro ⟨i, hi, hx⟩
    refine ⟨i, hi, ?_⟩
    rw [rangeD (by simp at hi; omega)]
    exact hx
theorem chainE_eq (w : List α) (ps : List (List α → Bool)) : ∀ f, chainE w ps ((List.range (w.length + 1)).map f) = (List.range (w.length + 1)).map (Cf w ps f) := by
  induction ps with
  | nil => intro f; rfl
  | cons p ps ih => intro f; rw [chainE, chainStep_eq, ih]; rfl
theorem start_eq (w : List α) : start w = (List.range (w.length + 1)).map begF := by
  unfold start
  rw [List.range_succ_eq_map]
  simp only [List.map_cons, List.map_map]
  congr 1
  apply List.ext_getElem
  · simp
  · intro i h1 h2
    simp [begF]
theorem chainB_eq (ps : List (List α → Bool)) (w : List α) : chainB ps w = Cf w ps begF w.length := by
  rw [chainB, start_eq, chainE_eq, rangeD (by omega)]
end
theorem evs_map (l : List Nd) : evs l = l.map ev := by
  induction l with
  | nil => simp [evs]
  | cons a l ih => simp [evs, ih]
section
variable {α : Type} (p : List α → Bool) (w : List α) (f : Nat → Bool)
/-- What the first i ends tell of m. -/
def Cs (i m : Nat) : Bool := (List.range (min i (m + 1))).any fun j => f j && p (part w j m)
theorem Cs_zero (m : Nat) : Cs p w f 0 m = false := by simp [Cs]
theorem Cs_full {i m : Nat} (h : m < i) : Cs p w f i m = stepF p w f m := by rw [Cs, Nat.min_eq_right (by omega : m + 1 ≤ i)]; rfl
theorem Cs_step {i m : Nat} (h : i ≤ m) : Cs p w f (i + 1) m = (Cs p w f i m || (f i && p (part w i m))) := by
  rw [Cs, Cs, Nat.min_eq_left (by omega : i + 1 ≤ m + 1), Nat.min_eq_left (by omega : i ≤ m + 1), List.range_succ, List.any_append]
  simp
theorem Cs_keep {i m : Nat} (h : m < i) : Cs p w f (i + 1) m = Cs p w f i m := by rw [Cs_full p w f h, Cs_full p w f (by omega)]
theorem Cs_no {i m : Nat} (hi : f i = false) : Cs p w f (i + 1) m = Cs p w f i m := by
  rcases Nat.lt_or_ge m i with h | h
  · exact Cs_keep p w f h
  · rw [Cs_step p w f h, hi]; simp
end
end Go.Proofs.YtgdnhlckodhhgaaGreatDoor

/-
  Plain Lean: where a row of words may end, step by step.
-/
namespace Go.Proofs.YtgdnhlckodhhgaaGreatDoor
section
variable {α : Type} (p : List α → Bool) (w : List α)
def Ef (m : Nat) : Bool := (starE p w m).getD m false
theorem starE_len (k : Nat) : (starE p w k).length = k + 1 := by
  induction k with
  | zero => rfl
  | succ k ih => simp [starE, ih]
theorem starE_get (k : Nat) : ∀ i, i ≤ k → (starE p w k).getD i false = Ef p w i := by
  induction k with
  | zero =>
    intro i hi
    obtain rfl : i = 0 := by omega
    rfl
  | succ k ih =>
    intro i hi
    rcases Nat.lt_or_ge i (k + 1) with h | h
    · rw [← ih i (by omega), starE, List.getD_eq_getElem?_getD, List.getD_eq_getElem?_getD, List.getElem?_append_left (by rw [starE_len]; omega)]
    · obtain rfl : i = k + 1 := by omega
      rfl
theorem Ef_succ (m : Nat) : Ef p w (m + 1) = (List.range (m + 1)).any fun i => Ef p w i && p (part w i (m + 1)) := by
  have h : Ef p w (m + 1) = (List.range (m + 1)).any fun i => (starE p w m).getD i false && p (part w i (m + 1)) := by
    rw [Ef, starE, List.getD_eq_getElem?_getD, List.getElem?_append_right (by rw [starE_len]; omega), starE_len]
    simp
  rw [h, Bool.eq_iff_iff, List.any_eq_true, List.any_eq_true]
  constructor
  · rintro ⟨i, hi, hx⟩
    refine ⟨i, hi, ?_⟩
    rwa [starE_get p w m i (by simp at hi; omega)] at hx
  · rintro ⟨i, hi, hx⟩
    refine ⟨i, hi, ?_⟩
    rwa [starE_get p w m i (by simp at hi; omega)]
/-- What the first i ends tell of m. -/
def Es (i m : Nat) : Bool := (m == 0) || (List.range (min i m)).any fun j => Ef p w j && p (part w j m)
theorem Es_full {i m : Nat} (h : m ≤ i) : Es p w i m = Ef p w m := by
  cases m with
  | zero => simp [Es, Ef, starE]
  | succ m => rw [Es, Nat.min_eq_right h, Ef_succ]; simp
theorem Es_zero (m : Nat) : Es p w 0 m = (m == 0) := by simp [Es]
theorem Es_step {i m : Nat} (h : i < m) : Es p w (i + 1) m = (Es p w i m || (Ef p w i && p (part w i m))) := by
  rw [Es, Es, Nat.min_eq_left (by omega : i + 1 ≤ m), Nat.min_eq_left (by omega : i ≤ m), List.range_succ, List.any_append]
  simp [Bool.or_assoc]
theorem Es_keep {i m : Nat} (h : m ≤ i) : Es p w (i + 1) m = Es p w i m := by rw [Es_full p w h, Es_full p w (by omega)]
theorem Es_no {i m : Nat} (hi : Ef p w i = false) : Es p w (i + 1) m = Es p w i m := by
  rcases Nat.lt_or_ge i m with h | h
  · rw [Es_step p w h, hi]; simp
  · exact Es_keep p w h
theorem starB_eq : starB p w = Ef p w w.length := rfl
end
end Go.Proofs.YtgdnhlckodhhgaaGreatDoor

/-
  Plain Lean: when two expressions are one.
-/
namespace Go.Proofs.YtgdnhlckodhhgaaGreatDoor
noncomputable def same (a b : E) : Bool := @decide (a = b) (Classical.propDecidable _)
theorem same_iff {a b : E} : same a b = true ↔ a = b := by unfold same; simp
theorem same_no {a b : E} (h : a ≠ b) : same a b = false := by unfold same; simp [h]
theorem same_self (a : E) : same a a = true := same_iff.2 rfl
theorem E.eq_iff {a b : E} : a = b ↔ a.op = b.op ∧ a.s = b.s ∧ a.l.length = b.l.length ∧ ∀ j (h : j < a.l.length) (h' : j < b.l.length), a.l[j] = b.l[j] := by
  constructor
  · rintro rfl; exact ⟨rfl, rfl, rfl, fun _ _ _ => rfl⟩
  · rintro ⟨h1, h2, h3, h4⟩
    rw [← E.eta a, ← E.eta b, h1, h2, List.ext_getElem h3 h4]
theorem same_step {a b : E} (h1 : a.op = b.op) (h2 : a.s = b.s) (h3 : a.l.length = b.l.length) (h4 : ∀ j (h : j < a.l.length) (h' : j < b.l.length), a.l[j] = b.l[j]) : same a b = true := same_iff.2 (E.eq_iff.2 ⟨h1, h2, h3, h4⟩)
theorem same_at {a b : E} {j : Nat} (h : j < a.l.length) (h' : j < b.l.length) (hs : same a.l[j] b.l[j] = false) : same a b = false := by
  refine same_no (fun e => ?_)
  have := (E.eq_iff.1 e).2.2.2 j h h'
  rw [this, same_self] at hs
  cases hs
end Go.Proofs.YtgdnhlckodhhgaaGreatDoor

/-
  Plain Lean, no program: how large an expression is, how deep, whether it is one.
-/
namespace Go.Proofs.YtgdnhlckodhhgaaGreatDoor
mutual
def E.size : E → Nat | .mk _ _ l => 1 + sizes l
def sizes : List E → Nat | [] => 0 | e :: l => e.size + sizes l
end
mutual
def E.nest : E → Nat | .mk _ _ l => 1 + nests l
def nests : List E → Nat | [] => 0 | e :: l => max e.nest (nests l)
end
theorem E.size_eq (e : E) : e.size = 1 + sizes e.l := by cases e; simp [E.size, E.l]
theorem E.nest_eq (e : E) : e.nest = 1 + nests e.l := by cases e; simp [E.nest, E.l]
theorem sizes_append (l m : List E) : sizes (l ++ m) = sizes l + sizes m := by
  induction l with
  | nil => simp [sizes]
  | cons e l ih => simp [sizes, ih]; omega
theorem nests_append (l m : List E) : nests (l ++ m) = max (nests l) (nests m) := by
  induction l with
  | nil => simp [nests]
  | cons e l ih => simp only [List.cons_append, nests, ih]; omega
theorem sizes_take (l : List E) (j : Nat) (h : j < l.length) : sizes (l.take (j + 1)) = sizes (l.take j) + l[j].size := by
  rw [List.take_succ_eq_append_getElem h, sizes_append]; simp [sizes]
theorem nests_take (l : List E) (j : Nat) (h : j < l.length) : nests (l.take (j + 1)) = max (nests (l.take j)) l[j].nest := by
  rw [List.take_succ_eq_append_getElem h, nests_append]; simp [nests]
theorem sizes_le (l : List E) (j : Nat) : sizes (l.take j) ≤ sizes l := by
  have h := sizes_append (l.take j) (l.drop j)
  rw [List.take_append_drop] at h; omega
theorem nests_le (l : List E) (j : Nat) : nests (l.take j) ≤ nests l := by
  have h := nests_append (l.take j) (l.drop j)
  rw [List.take_append_drop] at h; omega
theorem size_mem {l : List E} {e : E} (h : e ∈ l) : e.size ≤ sizes l := by
  induction l with
  | nil => cases h
  | cons a l ih =>
    rcases List.mem_cons.1 h with rfl | h
    · simp [sizes]
    · have := ih h; simp [sizes]; omega
theorem nest_mem {l : List E} {e : E} (h : e ∈ l) : e.nest ≤ nests l := by
  induction l with
  | nil => cases h
  | cons a l ih =>
    rcases List.mem_cons.1 h with rfl | h
    · simp [nests]; omega
    · have := ih h; simp [nests]; omega
theorem size_pos (e : E) : 0 < e.size := by rw [E.size_eq]; omega
theorem length_sizes (l : List E) : l.length ≤ sizes l := by
  induction l with
  | nil => simp [sizes]
  | cons a l ih => have := size_pos a; simp [sizes]; omega
mutual
theorem nest_size : ∀ e : E, e.nest ≤ e.size
  | .mk _ _ l => by simp only [E.nest, E.size]; have := nests_sizes l; omega
theorem nests_sizes : ∀ l : List E, nests l ≤ sizes l
  | [] => by simp [nests]
  | e :: l => by simp only [nests, sizes]; have := nest_size e; have := nests_sizes l; omega
end
end Go.Proofs.YtgdnhlckodhhgaaGreatDoor

/-
  Plain Lean, no program: the reader goes forward, and always ends.
-/
namespace Go.Proofs.YtgdnhlckodhhgaaGreatDoor
theorem sk_suffix (r : Bs) : sk r <:+ r := List.dropWhile_suffix _
theorem sk_len (r : Bs) : (sk r).length ≤ r.length := (sk_suffix r).length_le
theorem sk_sk (r : Bs) : sk (sk r) = sk r := by
  unfold sk
  induction r with
  | nil => rfl
  | cons c r ih =>
    by_cases h : (c == 32) = true
    · simp only [List.dropWhile_cons, h, if_true]; exact ih
    · simp only [List.dropWhile_cons, h, Bool.false_eq_true, if_false]
theorem tk_len {r u : Bs} (h : tk r = some u) : u = r.take u.length ∧ u.length ≤ r.length ∧ (r ≠ [] → u ≠ []) := by
  cases r with
  | nil => simp only [tk, Option.some.injEq] at h; subst h; simp
  | cons c r' =>
    simp only [tk] at h
    have key : ∀ n, 1 ≤ n → u = (c :: r').take n → u = (c :: r').take u.length ∧ u.length ≤ (c :: r').length ∧ ((c :: r') ≠ [] → u ≠ []) := by
      intro n hn he
      have hl : u.length = min n (r'.length + 1) := by rw [he]; simp
      refine ⟨?_, ?_, ?_⟩
      · rw [hl]
        rcases Nat.le_total n (r'.length + 1) with hh | hh
        · rw [Nat.min_eq_left hh]; exact he
        · rw [Nat.min_eq_right hh, he, List.take_of_length_le (by simpa using hh), List.take_of_length_le (by simp)]
      · rw [hl]; simp; omega
      · intro _ h0; rw [h0] at hl; simp at hl; omega
    split at h
    · exact key 2 (by omega) (Option.some.inj h).symm
    · split at h
      · exact key 1 (by omega) (by rw [← Option.some.inj h]; rfl)
      · split at h
        · exact key 2 (by omega) (Option.some.inj h).symm
        · split at h
          · exact key _ (by omega) (Option.some.inj h).symm
          · cases h
theorem token_ok {r t r1 : Bs} (h : token r = .ok (t, r1)) : r1 = sk r ∧ tk (sk r) = some t := by
  unfold token at h
  split at h
  · cases h
  · rename_i u hu; injection h with h; injection h with h1 h2; subst h1; subst h2; exact ⟨rfl, hu⟩
theorem token_err {r q : Bs} (h : token r = .error q) : q = sk r ∧ tk (sk r) = none := by
  unfold token at h
  split at h
  · rename_i hu; injection h with h; exact ⟨h.symm, hu⟩
  · cases h
theorem takeT_ok {t r r1 : Bs} {b : Bool} (h : takeT t r = .ok (b, r1)) : (b = true ∧ tk (sk r) = some t ∧ r1 = (sk r).drop t.length) ∨ (b = false ∧ r1 = sk r ∧ ∃ u, tk (sk r) = some u ∧ u ≠ t) := by
  unfold takeT at h
  split at h
  · cases h
  · rename_i u hu
    split at h
    · rename_i e; injection h with h; injection h with h1 h2; exact .inl ⟨h1.symm, e ▸ hu, h2.symm⟩
    · rename_i e; injection h with h; injection h with h1 h2; exact .inr ⟨h1.symm, h2.symm, u, hu, e⟩
theorem takeT_err {t r q : Bs} (h : takeT t r = .error q) : q = sk r ∧ tk (sk r) = none := by
  unfold takeT at h
  split at h
  · rename_i hu; injection h with h; exact ⟨h.symm, hu⟩
  · split at h <;> cases h
theorem takeT_len {t r r1 : Bs} {b : Bool} (h : takeT t r = .ok (b, r1)) : r1 <:+ r := by
  rcases takeT_ok h with ⟨_, _, rfl⟩ | ⟨_, rfl, _⟩
  · exact (List.drop_suffix _ _).trans (sk_suffix r)
  · exact sk_suffix r
theorem token_len {r t r1 : Bs} (h : token r = .ok (t, r1)) : r1 <:+ r := by
  obtain ⟨rfl, _⟩ := token_ok h; exact sk_suffix r

/-- What is left of a task. -/
def Task.r : Task → Bs | .lv _ r | .left _ _ r | .all _ _ r | .chain _ r | .behind _ r => r
def Task.isLv : Task → Bool | .lv _ _ => true | _ => false
/-- An answer goes forward. -/
def Fwd (t : Task) : Ex (E × Bs) → Prop
  | .error q => q <:+ t.r
  | .ok (_, r') => r' <:+ t.r ∧ (t.isLv = true → r'.length < t.r.length)
theorem bx_some {α β : Type} {x : Option (Ex α)} {f : α → Option (Ex β)} {y : Ex β} (h : bx x f = some y) : (∃ q, x = some (.error q) ∧ y = .error q) ∨ ∃ a, x = some (.ok a) ∧ f a = some y := by
  unfold bx at h
  split at h
  · cases h
  · rename_i q; injection h with h; exact .inl ⟨q, rfl, h.symm⟩
  · rename_i a; exact .inr ⟨a, rfl, h⟩
theorem lf_some {α β : Type} {x : Ex α} {f : α → Option (Ex β)} {y : Ex β} (h : lf x f = some y) : (∃ q, x = .error q ∧ y = .error q) ∨ ∃ a, x = .ok a ∧ f a = some y := by
  unfold lf at h
  split at h
  · rename_i q; injection h with h; exact .inl ⟨q, rfl, h.symm⟩
  · rename_i a; exact .inr ⟨a, rfl, h⟩
theorem suf_len {a b : Bs} (h : a <:+ b) : a.length ≤ b.length := h.length_le
theorem begT_cons {t : Bs} (h : begT t = true) : t ≠ [] := by rintro rfl; simp [begT] at h
theorem G_fwd (k : Nat) : ∀ t x, G k t = some x → Fwd t x := by
  induction k with
  | zero => intro t x h; simp [G] at h
  | succ k ih =>
    have lv : ∀ {n r a r1}, G k (.lv n r) = some (.ok (a, r1)) → r1 <:+ r ∧ r1.length < r.length := fun h => ⟨(ih _ _ h).1, (ih _ _ h).2 rfl⟩
    have lve : ∀ {n r q}, G k (.lv n r) = some (.error q) → q <:+ r := fun h => ih _ _ h
    intro t x h
    match t with
    | .lv 0 r =>
      simp only [G] at h
      rcases bx_some h with ⟨q, h1, rfl⟩ | ⟨⟨a, r1⟩, h1, h⟩
      · exact lve h1
      dsimp only at h
      obtain ⟨s1, l1⟩ := lv h1
      rcases lf_some h with ⟨q, h2, rfl⟩ | ⟨⟨b, r2⟩, h2, h⟩
      · exact (takeT_err h2).1 ▸ (sk_suffix _).trans s1
      dsimp only at h
      have s2 := (takeT_len h2).trans s1
      split at h
      · injection h with h; subst h; exact ⟨s2, fun _ => Nat.lt_of_le_of_lt (takeT_len h2).length_le l1⟩
      rcases lf_some h with ⟨q, h3, rfl⟩ | ⟨⟨t, r3⟩, h3, h⟩
      · exact (token_err h3).1 ▸ (sk_suffix _).trans s2
      dsimp only at h
      have s3 := (token_len h3).trans s2
      rcases bx_some h with ⟨q, h4, rfl⟩ | ⟨⟨x4, r4⟩, h4, h⟩
      · split at h4
        · injection h4 with h4; injection h4
        · exact (lve h4).trans s3
      dsimp only at h
      have s4 : r4 <:+ r3 := by
        split at h4
        · injection h4 with h4; injection h4 with h4; injection h4 with _ h4; subst h4; exact List.suffix_refl _
        · exact (lv h4).1
      rcases lf_some h with ⟨q, h5, rfl⟩ | ⟨⟨b5, r5⟩, h5, h⟩
      · exact (takeT_err h5).1 ▸ ((sk_suffix _).trans s4).trans s3
      dsimp only at h
      have s5 := ((takeT_len h5).trans s4).trans s3
      split at h
      · injection h with h; subst h; exact s5
      rcases lf_some h with ⟨q, h6, rfl⟩ | ⟨⟨t6, r6⟩, h6, h⟩
      · exact (token_err h6).1 ▸ (sk_suffix _).trans s5
      dsimp only at h
      have s6 := (token_len h6).trans s5
      rcases bx_some h with ⟨q, h7, rfl⟩ | ⟨⟨x7, r7⟩, h7, h⟩
      · split at h7
        · injection h7 with h7; injection h7
        · exact (lve h7).trans s6
      dsimp only at h
      have s7 : r7 <:+ r6 := by
        split at h7
        · injection h7 with h7; injection h7 with h7; injection h7 with _ h7; subst h7; exact List.suffix_refl _
        · exact (lv h7).1
      injection h with h; subst h
      refine ⟨s7.trans s6, fun _ => ?_⟩
      have e1 := s7.length_le; have e2 := (token_len h6).length_le; have e3 := (takeT_len h5).length_le; have e4 := s4.length_le; have e5 := (token_len h3).length_le; have e6 := (takeT_len h2).length_le
      show r7.length < r.length
      omega
    | .lv 1 r =>
      simp only [G] at h
      rcases bx_some h with ⟨q, h1, rfl⟩ | ⟨⟨a, r1⟩, h1, h⟩
      · exact lve h1
      dsimp only at h
      obtain ⟨s1, l1⟩ := lv h1
      have := ih _ _ h
      cases x with
      | error q => exact List.IsSuffix.trans this s1
      | ok y => exact ⟨this.1.trans s1, fun _ => Nat.lt_of_le_of_lt this.1.length_le l1⟩
    | .lv 2 r =>
      simp only [G] at h
      rcases bx_some h with ⟨q, h1, rfl⟩ | ⟨⟨a, r1⟩, h1, h⟩
      · exact lve h1
      dsimp only at h
      obtain ⟨s1, l1⟩ := lv h1
      have := ih _ _ h
      cases x with
      | error q => exact List.IsSuffix.trans this s1
      | ok y => exact ⟨this.1.trans s1, fun _ => Nat.lt_of_le_of_lt this.1.length_le l1⟩
    | .lv 3 r =>
      simp only [G] at h
      rcases bx_some h with ⟨q, h1, rfl⟩ | ⟨⟨a, r1⟩, h1, h⟩
      · exact lve h1
      dsimp only at h
      obtain ⟨s1, l1⟩ := lv h1
      have := ih _ _ h
      cases x with
      | error q => exact List.IsSuffix.trans this s1
      | ok y => exact ⟨this.1.trans s1, fun _ => Nat.lt_of_le_of_lt this.1.length_le l1⟩
    | .lv 4 r =>
      simp only [G] at h
      rcases bx_some h with ⟨q, h1, rfl⟩ | ⟨⟨a, r1⟩, h1, h⟩
      · exact lve h1
      dsimp only at h
      obtain ⟨s1, l1⟩ := lv h1
      have := ih _ _ h
      cases x with
      | error q => exact List.IsSuffix.trans this s1
      | ok y => exact ⟨this.1.trans s1, fun _ => Nat.lt_of_le_of_lt this.1.length_le l1⟩
    | .lv 5 r =>
      simp only [G] at h
      rcases bx_some h with ⟨q, h1, rfl⟩ | ⟨⟨a, r1⟩, h1, h⟩
      · exact lve h1
      dsimp only at h
      obtain ⟨s1, l1⟩ := lv h1
      have := ih _ _ h
      cases x with
      | error q => exact List.IsSuffix.trans this s1
      | ok y => exact ⟨this.1.trans s1, fun _ => Nat.lt_of_le_of_lt this.1.length_le l1⟩
    | .lv 6 r =>
      simp only [G] at h
      rcases bx_some h with ⟨q, h1, rfl⟩ | ⟨⟨a, r1⟩, h1, h⟩
      · exact lve h1
      dsimp only at h
      obtain ⟨s1, l1⟩ := lv h1
      have := ih _ _ h
      cases x with
      | error q => exact List.IsSuffix.trans this s1
      | ok y => exact ⟨this.1.trans s1, fun _ => Nat.lt_of_le_of_lt this.1.length_le l1⟩
    | .lv 7 r =>
      simp only [G] at h
      rcases lf_some h with ⟨q, h2, rfl⟩ | ⟨⟨t, r1⟩, h2, h⟩
      · exact (token_err h2).1 ▸ sk_suffix _
      dsimp only at h
      have s1 := token_len h2
      have dl : ∀ {t}, t ≠ [] → tk r1 = some t → (r1.drop 1).length < r1.length := by
        intro t h0 ht
        have := (tk_len ht).2.1
        have : 0 < t.length := List.length_pos_iff.2 h0
        simp; omega
      obtain ⟨e1, htk⟩ := token_ok h2
      rw [← e1] at htk
      split at h
      · rename_i ht
        rcases bx_some h with ⟨q, h1, rfl⟩ | ⟨⟨a, r2⟩, h1, h⟩
        · exact ((lve h1).trans (List.drop_suffix _ _)).trans s1
        dsimp only at h
        obtain ⟨s3, l3⟩ := lv h1
        injection h with h; subst h
        exact ⟨(s3.trans (List.drop_suffix _ _)).trans s1, fun _ => by have := dl (by rw [ht]; simp) htk; have := s1.length_le; show r2.length < r.length; omega⟩
      · split at h
        · rename_i ht
          rcases bx_some h with ⟨q, h1, rfl⟩ | ⟨⟨a, r2⟩, h1, h⟩
          · exact ((lve h1).trans (List.drop_suffix _ _)).trans s1
          dsimp only at h
          obtain ⟨s3, l3⟩ := lv h1
          injection h with h; subst h
          exact ⟨(s3.trans (List.drop_suffix _ _)).trans s1, fun _ => by have := dl (by rw [ht]; simp) htk; have := s1.length_le; show r2.length < r.length; omega⟩
        · rcases bx_some h with ⟨q, h1, rfl⟩ | ⟨⟨a, r2⟩, h1, h⟩
          · exact (lve h1).trans s1
          dsimp only at h
          obtain ⟨s3, l3⟩ := lv h1
          have := ih _ _ h
          cases x with
          | error q => exact (List.IsSuffix.trans this s3).trans s1
          | ok y => exact ⟨(this.1.trans s3).trans s1, fun _ => by have := this.1.length_le; have := s1.length_le; simp only [Task.r] at *; omega⟩
    | .lv (n + 8) r =>
      simp only [G] at h
      rcases lf_some h with ⟨q, h2, rfl⟩ | ⟨⟨t, r1⟩, h2, h⟩
      · exact (token_err h2).1 ▸ sk_suffix _
      dsimp only at h
      have s1 := token_len h2
      obtain ⟨e1, htk⟩ := token_ok h2
      rw [← e1] at htk
      have ht2 := (tk_len htk).2.1
      split at h
      · injection h with h; subst h; exact s1
      · rename_i hb
        have hne : t ≠ [] := begT_cons (by simpa using hb)
        have hpos : 0 < t.length := List.length_pos_iff.2 hne
        split at h
        · injection h with h; subst h
          exact ⟨(List.drop_suffix _ _).trans s1, fun _ => by have := s1.length_le; simp only [List.length_drop, Task.r] at *; omega⟩
        · rcases bx_some h with ⟨q, h1, rfl⟩ | ⟨⟨a, r2⟩, h1, h⟩
          · exact ((lve h1).trans (List.drop_suffix _ _)).trans s1
          dsimp only at h
          obtain ⟨s3, l3⟩ := lv h1
          rcases lf_some h with ⟨q, h2, rfl⟩ | ⟨⟨b, r3⟩, h4, h⟩
          · exact (takeT_err h2).1 ▸ (((sk_suffix _).trans s3).trans (List.drop_suffix _ _)).trans s1
          dsimp only at h
          have s4 := (((takeT_len h4).trans s3).trans (List.drop_suffix _ _)).trans s1
          split at h
          · injection h with h; subst h; exact s4
          · injection h with h; subst h
            exact ⟨s4, fun _ => by have := (takeT_len h4).length_le; have := s1.length_le; simp only [List.length_drop, Task.r] at *; omega⟩
    | .left n a r =>
      simp only [G] at h
      rcases lf_some h with ⟨q, h2, rfl⟩ | ⟨⟨b, r1⟩, h2, h⟩
      · exact (takeT_err h2).1 ▸ sk_suffix _
      dsimp only at h
      have s1 := takeT_len h2
      split at h
      · injection h with h; subst h; exact ⟨s1, fun h => by simp [Task.isLv] at h⟩
      · rcases bx_some h with ⟨q, h1, rfl⟩ | ⟨⟨a, r2⟩, h1, h⟩
        · exact (lve h1).trans s1
        dsimp only at h
        have := ih _ _ h
        cases x with
        | error q => exact (List.IsSuffix.trans this (lv h1).1).trans s1
        | ok y => exact ⟨(this.1.trans (lv h1).1).trans s1, fun h => by simp [Task.isLv] at h⟩
    | .all n acc r =>
      simp only [G] at h
      rcases lf_some h with ⟨q, h2, rfl⟩ | ⟨⟨b, r1⟩, h2, h⟩
      · exact (takeT_err h2).1 ▸ sk_suffix _
      dsimp only at h
      have s1 := takeT_len h2
      split at h
      · injection h with h; subst h; exact ⟨s1, fun h => by simp [Task.isLv] at h⟩
      · rcases bx_some h with ⟨q, h1, rfl⟩ | ⟨⟨a, r2⟩, h1, h⟩
        · exact (lve h1).trans s1
        dsimp only at h
        have := ih _ _ h
        cases x with
        | error q => exact (List.IsSuffix.trans this (lv h1).1).trans s1
        | ok y => exact ⟨(this.1.trans (lv h1).1).trans s1, fun h => by simp [Task.isLv] at h⟩
    | .chain acc r =>
      simp only [G] at h
      rcases lf_some h with ⟨q, h2, rfl⟩ | ⟨⟨t, r1⟩, h2, h⟩
      · exact (token_err h2).1 ▸ sk_suffix _
      dsimp only at h
      have s1 := token_len h2
      split at h
      · rcases bx_some h with ⟨q, h1, rfl⟩ | ⟨⟨a, r2⟩, h1, h⟩
        · exact (lve h1).trans s1
        dsimp only at h
        have := ih _ _ h
        cases x with
        | error q => exact (List.IsSuffix.trans this (lv h1).1).trans s1
        | ok y => exact ⟨(this.1.trans (lv h1).1).trans s1, fun h => by simp [Task.isLv] at h⟩
      · injection h with h; subst h; exact ⟨s1, fun h => by simp [Task.isLv] at h⟩
    | .behind a r =>
      simp only [G] at h
      rcases lf_some h with ⟨q, h2, rfl⟩ | ⟨⟨t, r1⟩, h2, h⟩
      · exact (token_err h2).1 ▸ sk_suffix _
      dsimp only at h
      have s1 := token_len h2
      split at h
      · have := ih _ _ h
        cases x with
        | error q => exact (List.IsSuffix.trans this (List.drop_suffix _ _)).trans s1
        | ok y => exact ⟨(this.1.trans (List.drop_suffix _ _)).trans s1, fun h => by simp [Task.isLv] at h⟩
      · injection h with h; subst h; exact ⟨s1, fun h => by simp [Task.isLv] at h⟩
end Go.Proofs.YtgdnhlckodhhgaaGreatDoor

/-
  Plain Lean: a word cut into two rows, step by step.
-/
namespace Go.Proofs.YtgdnhlckodhhgaaGreatDoor
/-- What is known of a cut behind i symbols. -/
def CutOk (i : Nat) (x : Cut) : Prop := x.a.length + x.b.length = i ∧ (∃ is lr, x.rs = is ++ [lr] ∧ is.length = x.a.length) ∧ ∀ r, r ∈ x.rs → r.length ≤ i
theorem cutAdd_ok {m i : Nat} {c : UInt8} {x : Cut} (h : CutOk i x) : CutOk (i + 1) (cutAdd m i c x) := by
  obtain ⟨h1, ⟨is, lr, h2, h3⟩, h4⟩ := h
  unfold cutAdd
  split
  · refine ⟨by simp; omega, ⟨x.rs, [], rfl, by rw [h2]; simp [h3]⟩, ?_⟩
    intro r hr
    simp only [List.mem_append, List.mem_singleton] at hr
    rcases hr with hr | rfl
    · have := h4 r hr; omega
    · simp
  · refine ⟨by simp; omega, ⟨is, lr ++ [c], by rw [h2]; simp, h3⟩, ?_⟩
    intro r hr
    rw [h2] at hr
    simp only [List.dropLast_concat, List.getLastD_concat, List.mem_append, List.mem_singleton] at hr
    rcases hr with hr | rfl
    · have := h4 r (by rw [h2]; simp [hr]); omega
    · have := h4 lr (by rw [h2]; simp); simp; omega
theorem cutTo_ok (m : Nat) (w : Bs) (i : Nat) : CutOk i (cutTo m w i) := by
  induction i with
  | zero => exact ⟨rfl, ⟨[], [], rfl, rfl⟩, by simp [cutTo]⟩
  | succ i ih => exact cutAdd_ok ih
theorem part_one {u : Bs} {i : Nat} (h : i < u.length) : (u.take (i + 1)).drop i = [u.getD i 0] := by
  rw [List.take_add_one, List.drop_append]
  simp [List.getElem?_eq_getElem h]
  rw [Nat.min_eq_left (Nat.le_of_lt h)]
  simp
theorem cut_zero {m i : Nat} {c : UInt8} {xa xb : Bs} {rs : List Bs} (h : (m >>> i) % 2 = 0) : cutAdd m i c ⟨xa, xb, rs⟩ = ⟨xa ++ [c], xb, rs ++ [[]]⟩ := by rw [cutAdd, if_pos h]
theorem cut_one {m i : Nat} {c : UInt8} {xa xb : Bs} {is : List Bs} {lr : Bs} (h : ¬ (m >>> i) % 2 = 0) : cutAdd m i c ⟨xa, xb, is ++ [lr]⟩ = ⟨xa, xb ++ [c], is ++ [lr ++ [c]]⟩ := by rw [cutAdd, if_neg h]; simp
theorem rowsB_yes {op : Int} {p q : Bs → Bool} {w : Bs} {m : Nat} (hm : m < 2 ^ w.length) (h : rowB op p q m w = true) : rowsB op p q w = true := by
  rw [rowsB, List.any_eq_true]; exact ⟨m, by simpa using hm, h⟩
theorem rowsB_no {op : Int} {p q : Bs → Bool} {w : Bs} (h : ∀ m, m < 2 ^ w.length → rowB op p q m w = false) : rowsB op p q w = false := by
  rw [rowsB, List.any_eq_false]; intro m hm; rw [h m (by simpa using hm)]; simp
end Go.Proofs.YtgdnhlckodhhgaaGreatDoor

/-
  Plain Lean, no program: the reader always ends (more rounds give the same answer; some number of rounds is enough).
-/
namespace Go.Proofs.YtgdnhlckodhhgaaGreatDoor
def Le {α : Type} (x y : Option α) : Prop := ∀ r, x = some r → y = some r
theorem Le.refl {α : Type} (x : Option α) : Le x x := fun _ h => h
theorem bx_le {α β : Type} {x x' : Option (Ex α)} {f f' : α → Option (Ex β)} (h : Le x x') (hf : ∀ a, Le (f a) (f' a)) : Le (bx x f) (bx x' f') := by
  intro r hr
  rcases bx_some hr with ⟨q, h1, rfl⟩ | ⟨a, h1, h2⟩
  · rw [h _ h1]; rfl
  · rw [h _ h1]; exact hf a _ h2
theorem lf_le {α β : Type} {x : Ex α} {f f' : α → Option (Ex β)} (hf : ∀ a, Le (f a) (f' a)) : Le (lf x f) (lf x f') := by
  intro r hr
  rcases lf_some hr with ⟨q, h1, rfl⟩ | ⟨a, h1, h2⟩
  · rw [h1]; rfl
  · rw [h1]; exact hf a _ h2
theorem ite_le {α : Type} {c : Prop} [Decidable c] {a a' b b' : Option α} (h : Le a a') (k : Le b b') : Le (if c then a else b) (if c then a' else b') := by
  split
  · exact h
  · exact k
theorem G_mono (k : Nat) : ∀ t, Le (G k t) (G (k + 1) t) := by
  induction k with
  | zero => intro t r h; simp [G] at h
  | succ k ih =>
    intro t
    match t with
    | .lv 0 r => simp only [G]; repeat' (first | exact ih _ | exact Le.refl _ | refine bx_le ?_ (fun _ => ?_) | refine lf_le (fun _ => ?_) | refine ite_le ?_ ?_)
    | .lv 1 r => simp only [G]; repeat' (first | exact ih _ | exact Le.refl _ | refine bx_le ?_ (fun _ => ?_) | refine lf_le (fun _ => ?_) | refine ite_le ?_ ?_)
    | .lv 2 r => simp only [G]; repeat' (first | exact ih _ | exact Le.refl _ | refine bx_le ?_ (fun _ => ?_) | refine lf_le (fun _ => ?_) | refine ite_le ?_ ?_)
    | .lv 3 r => simp only [G]; repeat' (first | exact ih _ | exact Le.refl _ | refine bx_le ?_ (fun _ => ?_) | refine lf_le (fun _ => ?_) | refine ite_le ?_ ?_)
    | .lv 4 r => simp only [G]; repeat' (first | exact ih _ | exact Le.refl _ | refine bx_le ?_ (fun _ => ?_) | refine lf_le (fun _ => ?_) | refine ite_le ?_ ?_)
    | .lv 5 r => simp only [G]; repeat' (first | exact ih _ | exact Le.refl _ | refine bx_le ?_ (fun _ => ?_) | refine lf_le (fun _ => ?_) | refine ite_le ?_ ?_)
    | .lv 6 r => simp only [G]; repeat' (first | exact ih _ | exact Le.refl _ | refine bx_le ?_ (fun _ => ?_) | refine lf_le (fun _ => ?_) | refine ite_le ?_ ?_)
    | .lv 7 r => simp only [G]; repeat' (first | exact ih _ | exact Le.refl _ | refine bx_le ?_ (fun _ => ?_) | refine lf_le (fun _ => ?_) | refine ite_le ?_ ?_)
    | .lv (n + 8) r =>
      simp only [G]
      refine lf_le (fun a => ite_le (Le.refl _) ?_)
      cases leaf a.1 with
      | some e => exact Le.refl _
      | none => repeat' (first | exact ih _ | exact Le.refl _ | refine bx_le ?_ (fun _ => ?_) | refine lf_le (fun _ => ?_) | refine ite_le ?_ ?_)
    | .left n a r => simp only [G]; repeat' (first | exact ih _ | exact Le.refl _ | refine bx_le ?_ (fun _ => ?_) | refine lf_le (fun _ => ?_) | refine ite_le ?_ ?_)
    | .all n acc r => simp only [G]; repeat' (first | exact ih _ | exact Le.refl _ | refine bx_le ?_ (fun _ => ?_) | refine lf_le (fun _ => ?_) | refine ite_le ?_ ?_)
    | .chain acc r => simp only [G]; repeat' (first | exact ih _ | exact Le.refl _ | refine bx_le ?_ (fun _ => ?_) | refine lf_le (fun _ => ?_) | refine ite_le ?_ ?_)
    | .behind a r =>
      simp only [G]
      refine lf_le (fun a => ?_)
      cases behindOp a.1 with
      | some o => exact ih _
      | none => exact Le.refl _
theorem G_more {k k' : Nat} (hk : k ≤ k') {t : Task} {x : Ex (E × Bs)} (h : G k t = some x) : G k' t = some x := by
  induction hk with
  | refl => exact h
  | step _ ih => exact G_mono _ _ _ ih
/-- Behind some number of rounds an answer. -/
def Ev {α : Type} (f : Nat → Option (Ex α)) : Prop := ∃ K x, ∀ k, K ≤ k → f k = some x
theorem Ev.now {α : Type} (x : Ex α) : Ev (fun _ => some x) := ⟨0, x, fun _ _ => rfl⟩
theorem Ev.bx_ {α β : Type} {f : Nat → Option (Ex α)} {g : Nat → α → Option (Ex β)} (h : Ev f) (hg : ∀ a, (∃ k, f k = some (.ok a)) → Ev (fun k => g k a)) : Ev (fun k => bx (f k) (g k)) := by
  obtain ⟨K, x, h⟩ := h
  cases x with
  | error q => exact ⟨K, .error q, fun k hk => by show bx (f k) (g k) = _; rw [h k hk]; rfl⟩
  | ok a =>
    obtain ⟨K', y, h'⟩ := hg a ⟨K, h K (Nat.le_refl _)⟩
    exact ⟨K + K', y, fun k hk => by show bx (f k) (g k) = _; rw [h k (by omega)]; exact h' k (by omega)⟩
theorem Ev.lf_ {α β : Type} {x : Ex α} {g : Nat → α → Option (Ex β)} (hg : ∀ a, x = .ok a → Ev (fun k => g k a)) : Ev (fun k => lf x (g k)) := by
  cases x with
  | error q => exact Ev.now (.error q)
  | ok a => exact hg a rfl
theorem Ev.ite_ {α : Type} {c : Prop} [Decidable c] {f g : Nat → Option (Ex α)} (h : c → Ev f) (k : ¬ c → Ev g) : Ev (fun n => if c then f n else g n) := by
  by_cases hc : c
  · simp only [hc, if_true]; exact h hc
  · simp only [hc, if_false]; exact k hc
def Tot (t : Task) : Prop := Ev (fun k => G k t)
theorem Tot.step {t : Task} {f : Nat → Res} (h : ∀ k, G (k + 1) t = f k) (hf : Ev f) : Tot t := by
  obtain ⟨K, x, hx⟩ := hf
  refine ⟨K + 1, x, fun k hk => ?_⟩
  obtain ⟨k, rfl⟩ : ∃ m, k = m + 1 := ⟨k - 1, by omega⟩
  show G (k + 1) t = some x
  rw [h]; exact hx k (by omega)
def rank : Task → Nat | .lv n _ => 20 - min n 8 | .chain _ _ => 15 | _ => 0
def meas (t : Task) : Nat := t.r.length * 32 + rank t
theorem rank_lt (t : Task) : rank t < 32 := by cases t <;> simp [rank] <;> omega
theorem tot_all (m : Nat) : ∀ t, meas t < m → Tot t := by
  induction m with
  | zero => intro t h; omega
  | succ m ih =>
    intro t hm
    have go : ∀ t', (t'.r.length < t.r.length ∨ t'.r.length ≤ t.r.length ∧ rank t' < rank t) → Tot t' := by
      intro t' h
      refine ih t' ?_
      have := rank_lt t'
      unfold meas at *
      omega
    have fw : ∀ {n r a}, (∃ k, G k (.lv n r) = some (.ok a)) → a.2.length < r.length := by
      rintro n r ⟨a, r1⟩ ⟨k, h⟩
      exact (G_fwd _ _ _ h).2 rfl
    clear ih hm
    match t, go with
    | .lv 0 r, go =>
      refine Tot.step (fun k => by simp only [G]; rfl) ?_
      refine Ev.bx_ (go _ (.inr ⟨Nat.le_refl _, by simp [rank]⟩)) (fun a ha => ?_)
      have la := fw ha
      refine Ev.lf_ (fun b hb => Ev.ite_ (fun _ => Ev.now _) (fun _ => ?_))
      have lb := (takeT_len (show takeT [61, 62] a.2 = .ok (b.1, b.2) from hb)).length_le
      refine Ev.lf_ (fun c hc => ?_)
      have lc := (token_len (show token b.2 = .ok (c.1, c.2) from hc)).length_le
      refine Ev.bx_ (Ev.ite_ (fun _ => Ev.now _) (fun _ => go _ (.inl (by simp only [Task.r]; omega)))) (fun d hd => ?_)
      have ld : d.2.length ≤ c.2.length := by
        obtain ⟨k, hd⟩ := hd
        split at hd
        · injection hd with hd; injection hd with hd; rw [← hd]; exact Nat.le_refl _
        · exact Nat.le_of_lt (fw ⟨k, hd⟩)
      refine Ev.lf_ (fun e he => Ev.ite_ (fun _ => Ev.now _) (fun _ => ?_))
      have le := (takeT_len (show takeT [95] d.2 = .ok (e.1, e.2) from he)).length_le
      refine Ev.lf_ (fun f hf => ?_)
      have lf' := (token_len (show token e.2 = .ok (f.1, f.2) from hf)).length_le
      exact Ev.bx_ (Ev.ite_ (fun _ => Ev.now _) (fun _ => go _ (.inl (by simp only [Task.r]; omega)))) (fun g _ => Ev.now _)
    | .lv 1 r, go =>
      refine Tot.step (fun k => by simp only [G]; rfl) ?_
      exact Ev.bx_ (go _ (.inr ⟨Nat.le_refl _, by simp [rank]⟩)) (fun a ha => go _ (.inl (by have := fw ha; simp only [Task.r]; omega)))
    | .lv 2 r, go =>
      refine Tot.step (fun k => by simp only [G]; rfl) ?_
      exact Ev.bx_ (go _ (.inr ⟨Nat.le_refl _, by simp [rank]⟩)) (fun a ha => go _ (.inl (by have := fw ha; simp only [Task.r]; omega)))
    | .lv 3 r, go =>
      refine Tot.step (fun k => by simp only [G]; rfl) ?_
      exact Ev.bx_ (go _ (.inr ⟨Nat.le_refl _, by simp [rank]⟩)) (fun a ha => go _ (.inl (by have := fw ha; simp only [Task.r]; omega)))
    | .lv 4 r, go =>
      refine Tot.step (fun k => by simp only [G]; rfl) ?_
      exact Ev.bx_ (go _ (.inr ⟨Nat.le_refl _, by simp [rank]⟩)) (fun a ha => go _ (.inl (by have := fw ha; simp only [Task.r]; omega)))
    | .lv 5 r, go =>
      refine Tot.step (fun k => by simp only [G]; rfl) ?_
      exact Ev.bx_ (go _ (.inr ⟨Nat.le_refl _, by simp [rank]⟩)) (fun a ha => go _ (.inl (by have := fw ha; simp only [Task.r]; omega)))
    | .lv 6 r, go =>
      refine Tot.step (fun k => by simp only [G]; rfl) ?_
      exact Ev.bx_ (go _ (.inr ⟨Nat.le_refl _, by simp [rank]⟩)) (fun a ha => go _ (.inl (by have := fw ha; simp only [Task.r]; omega)))
    | .lv 7 r, go =>
      refine Tot.step (fun k => by simp only [G]; rfl) ?_
      refine Ev.lf_ (fun b hb => ?_)
      have hb' : token r = .ok (b.1, b.2) := hb
      have lb := (token_len hb').length_le
      have ld : b.1 ≠ [] → (b.2.drop 1).length < r.length := by
        intro h0
        obtain ⟨e1, htk⟩ := token_ok hb'
        have h2 := (tk_len htk).2.1
        have h3 : 0 < b.1.length := List.length_pos_iff.2 h0
        have := sk_len r
        rw [e1, List.length_drop]; omega
      refine Ev.ite_ (fun h => ?_) (fun _ => Ev.ite_ (fun h => ?_) (fun _ => ?_))
      · exact Ev.bx_ (go _ (.inl (ld (by rw [h]; simp)))) (fun _ _ => Ev.now _)
      · exact Ev.bx_ (go _ (.inl (ld (by rw [h]; simp)))) (fun _ _ => Ev.now _)
      · exact Ev.bx_ (go _ (.inr ⟨lb, by simp [rank]⟩)) (fun a ha => go _ (.inl (by have := fw ha; simp only [Task.r]; omega)))
    | .lv (n + 8) r, go =>
      refine Tot.step (fun k => by simp only [G]; rfl) ?_
      refine Ev.lf_ (fun b hb => Ev.ite_ (fun _ => Ev.now _) (fun hbeg => ?_))
      have hb' : token r = .ok (b.1, b.2) := hb
      cases leaf b.1 with
      | some e => exact Ev.now _
      | none =>
        obtain ⟨e1, htk⟩ := token_ok hb'
        have h2 := (tk_len htk).2.1
        have h3 : 0 < b.1.length := List.length_pos_iff.2 (begT_cons (by simpa using hbeg))
        have := sk_len r
        exact Ev.bx_ (go _ (.inl (by simp only [Task.r]; rw [e1, List.length_drop]; omega))) (fun a ha => Ev.lf_ (fun _ _ => Ev.ite_ (fun _ => Ev.now _) (fun _ => Ev.now _)))
    | .left n a r, go =>
      refine Tot.step (fun k => by simp only [G]; rfl) ?_
      refine Ev.lf_ (fun b hb => Ev.ite_ (fun _ => Ev.now _) (fun hbt => ?_))
      have hb' : takeT (sgn n) r = .ok (b.1, b.2) := hb
      have lb : b.2.length < r.length := by
        rcases takeT_ok hb' with ⟨_, h1, h2⟩ | ⟨h0, _⟩
        · have h3 := (tk_len h1).2.1
          have h4 : 0 < (sgn n).length := by unfold sgn; split <;> simp
          have := sk_len r
          rw [h2, List.length_drop]; omega
        · exact absurd h0 hbt
      exact Ev.bx_ (go _ (.inl lb)) (fun a ha => go _ (.inl (by have := fw ha; simp only [Task.r]; omega)))
    | .all n acc r, go =>
      refine Tot.step (fun k => by simp only [G]; rfl) ?_
      refine Ev.lf_ (fun b hb => Ev.ite_ (fun _ => Ev.now _) (fun hbt => ?_))
      have hb' : takeT (sgn n) r = .ok (b.1, b.2) := hb
      have lb : b.2.length < r.length := by
        rcases takeT_ok hb' with ⟨_, h1, h2⟩ | ⟨h0, _⟩
        · have h3 := (tk_len h1).2.1
          have h4 : 0 < (sgn n).length := by unfold sgn; split <;> simp
          have := sk_len r
          rw [h2, List.length_drop]; omega
        · exact absurd h0 hbt
      exact Ev.bx_ (go _ (.inl lb)) (fun a ha => go _ (.inl (by have := fw ha; simp only [Task.r]; omega)))
    | .chain acc r, go =>
      refine Tot.step (fun k => by simp only [G]; rfl) ?_
      refine Ev.lf_ (fun b hb => Ev.ite_ (fun _ => ?_) (fun _ => Ev.now _))
      have lb := (token_len (show token r = .ok (b.1, b.2) from hb)).length_le
      exact Ev.bx_ (go _ (.inr ⟨lb, by simp [rank]⟩)) (fun a ha => go _ (.inl (by have := fw ha; simp only [Task.r]; omega)))
    | .behind a r, go =>
      refine Tot.step (fun k => by simp only [G]; rfl) ?_
      refine Ev.lf_ (fun b hb => ?_)
      have hb' : token r = .ok (b.1, b.2) := hb
      cases ho : behindOp b.1 with
      | none => exact Ev.now _
      | some o =>
        obtain ⟨e1, htk⟩ := token_ok hb'
        have h2 := (tk_len htk).2.1
        have h3 : 0 < b.1.length := by
          rcases hz : b.1 with _ | ⟨c, l⟩
          · rw [hz] at ho; simp [behindOp] at ho
          · simp
        have := sk_len r
        exact go _ (.inl (by simp only [Task.r]; rw [e1, List.length_drop]; omega))
/-- Every text is read, or refused. -/
theorem G_total (t : Task) : ∃ k x, G k t = some x := by
  obtain ⟨K, x, h⟩ := tot_all (meas t + 1) t (by omega)
  exact ⟨K, x, h K (Nat.le_refl _)⟩
end Go.Proofs.YtgdnhlckodhhgaaGreatDoor
