/-
  Memory: what is only read (M), what a call keeps (Kp), a block of the call's own (Box), an expression in memory (ExM). No function of the program is walked here.
-/
import Derived.Test.YtgdnhlckodhhgaaGreatDoorJQ
import Derived.Test.YtgdnhlckodhhgaaGreatDoorProg
import Derived.WalkKit
import Derived.WalkSpells
import Derived.WalkLawsBesides
import Derived.Handy
import Derived.Deep.QuietTactic
import Derived.BigQuiet
import Derived.Deep.DeepMust
import Derived.Deep.LoopGhost
import Derived.Deep.DeepCutAuto
import Derived.Deep.AppendLies
import Derived.Maps.AppendAt
import Derived.Deep.CutBlock
import Derived.Deep.RegionHeld3
import Derived.Deep.RegionLaw
import Derived.StillTailTactics
import Derived.Deep.DrawnRows
import Derived.Deep.DeepFit
import Derived.PlainAid
import Derived.Lib.Bytealg
namespace Go.Proofs.YtgdnhlckodhhgaaGreatDoor
open Go.RowKit
def bs (l : Bs) : ByteArray := ⟨l.toArray⟩
theorem bs_data (s : ByteArray) : bs s.data.toList = s := by cases s; rfl
theorem bs_inj {a b : Bs} (h : bs a = bs b) : a = b := by simpa [bs] using h
theorem bs_size (l : Bs) : (bs l).size = l.length := by simp [bs, ByteArray.size]
theorem bs_toList (l : Bs) : (bs l).toList = l := by rw [ByteArray.toList_eq]; simp [bs]
theorem bs_extract (l : Bs) (a b : Nat) : (bs l).extract a b = bs ((l.take b).drop a) := by
  apply ByteArray.ext; simp [bs, ByteArray.data_extract, List.drop_take]

abbrev Heap := Nat → Option Obj
/-- What M tells of blocks is so. -/
def Mem (w : World) (M : Heap) : Prop := ∀ b o, M b = some o → w.heap[b]? = some o
/-- M' tells more, of blocks from n on. -/
def Ext (n : Nat) (M M' : Heap) : Prop := (∀ b o, M b = some o → M' b = some o) ∧ ∀ b o, M' b = some o → M b = some o ∨ n ≤ b
/-- Nothing of w has turned but the blocks in S. -/
structure Kp (S : List Nat) (w w' : World) : Prop where
  os : w'.os = w.os
  tape : w'.tape = w.tape
  output : w'.output = w.output
  size : w.heap.size ≤ w'.heap.size
  block : ∀ b, b < w.heap.size → b ∉ S → w'.heap[b]? = w.heap[b]?
/-- A block that may be written: its cells, its elements' type; M says nothing of it. -/
structure Box (w : World) (M : Heap) (b : Nat) (c : Array Value) (t : TypeId) : Prop where
  blk : w.heap[b]? = some (.cells c t (0, 0))
  out : M b = none
section
variable {w w' w1 w2 : World} {M M' M1 M2 : Heap} {S S' : List Nat} {b n m : Nat} {c : Array Value} {t : TypeId} {o : Obj}
theorem Ext.refl (n : Nat) (M : Heap) : Ext n M M := ⟨fun _ _ h => h, fun _ _ h => .inl h⟩
theorem Ext.trans (h : Ext n M M1) (k : Ext m M1 M2) (hm : n ≤ m) : Ext n M M2 :=
  ⟨fun b o x => k.1 b o (h.1 b o x), fun b o x => (k.2 b o x).elim (fun y => h.2 b o y) (fun y => .inr (Nat.le_trans hm y))⟩
theorem Ext.low (h : Ext m M M1) (hm : n ≤ m) : Ext n M M1 := (Ext.refl n M).trans h hm
theorem Ext.no (h : Ext n M M') (hb : M b = none) (hn : b < n) : M' b = none := by
  cases hx : M' b with
  | none => rfl
  | some o =>
    rcases h.2 b o hx with h' | h'
    · rw [hb] at h'; cases h'
    · omega
theorem Kp.refl (S : List Nat) (w : World) : Kp S w w := ⟨rfl, rfl, rfl, Nat.le_refl _, fun _ _ _ => rfl⟩
theorem Kp.trans (h : Kp S w w1) (k : Kp S w1 w2) : Kp S w w2 :=
  ⟨k.os.trans h.os, k.tape.trans h.tape, k.output.trans h.output, Nat.le_trans h.size k.size, fun b hb hs => (k.block b (Nat.lt_of_lt_of_le hb h.size) hs).trans (h.block b hb hs)⟩
theorem Kp.mono (h : Kp S w w1) (hs : ∀ x, x ∈ S → x ∈ S') : Kp S' w w1 := ⟨h.os, h.tape, h.output, h.size, fun b hb k => h.block b hb (fun x => k (hs b x))⟩
theorem Kp.nil (h : Kp [] w w1) : Kp S w w1 := h.mono (fun x hx => by cases hx)
/-- What a callee wrote besides lies behind what was there. -/
theorem Kp.inner (h : Kp S w w1) (k : Kp S' w1 w2) (hs : ∀ x, x ∈ S' → x ∈ S ∨ w.heap.size ≤ x) : Kp S w w2 :=
  ⟨k.os.trans h.os, k.tape.trans h.tape, k.output.trans h.output, Nat.le_trans h.size k.size, fun b hb hn => (k.block b (Nat.lt_of_lt_of_le hb h.size) (fun x => (hs b x).elim hn (fun y => by omega))).trans (h.block b hb hn)⟩
theorem Kp.alloc (h : Kp S w w1) (o : Obj) : Kp S w (w1.alloc o) :=
  h.trans ⟨rfl, rfl, rfl, by simp, fun b hb _ => Below.heap_alloc _ _ _ hb⟩
theorem Kp.setCell (h : Kp S w w1) {p : Addr} (hp : p.block ∈ S ∨ w.heap.size ≤ p.block) (v : Value) : Kp S w (w1.setCell p v) :=
  ⟨h.os, h.tape, h.output, by simpa [World.setCell] using h.size, fun b hb hn => (Below.heap_setCell _ _ _ _ (by rintro rfl; exact hp.elim hn (fun y => by omega))).trans (h.block b hb hn)⟩
theorem Kp.drew (h : Kp S w w1) : Kp S w w1.drew := ⟨h.os, h.tape, h.output, h.size, h.block⟩
theorem Kp.drewN (h : Kp S w w1) (n : Nat) : Kp S w (w1.drewN n) := ⟨h.os, h.tape, h.output, h.size, h.block⟩
theorem Kp.grown (h : Kp S w w1) {row : Option Nat} (k : w1.grownBy w2 row) (hr : ∀ x, row = some x → x ∈ S ∨ w.heap.size ≤ x) : Kp S w w2 :=
  ⟨k.os.trans h.os, k.tape.trans h.tape, k.output.trans h.output, Nat.le_trans h.size k.size, fun b hb hn => (k.block b (Nat.lt_of_lt_of_le hb h.size) (fun e => (hr b e.symm).elim hn (fun y => by omega))).trans (h.block b hb hn)⟩
theorem Kp.below (h : Kp [] w w1) : Below w.heap.size w w1 := ⟨h.os, h.tape, h.output, h.size, fun b hb => h.block b hb (by simp)⟩
theorem Kp.of_below (h : Below w.heap.size w w1) : Kp S w w1 := ⟨h.os, h.tape, h.output, h.size, fun b hb _ => h.block b hb⟩
theorem Kp.cell (h : Kp S w w1) {p : Addr} (hp : p.block < w.heap.size) (hs : p.block ∉ S) : w1.cell? p = w.cell? p := World.cell?_of_block (h.block _ hp hs)
theorem Mem.lt (h : Mem w M) (hb : M b = some o) : b < w.heap.size := (Array.getElem?_eq_some_iff.1 (h b o hb)).1
theorem Mem.new (h : Mem w M) : M w.heap.size = none := by
  cases hx : M w.heap.size with
  | none => rfl
  | some o => exact absurd (h.lt hx) (Nat.lt_irrefl _)
theorem Mem.ge (h : Mem w M) (hb : w.heap.size ≤ b) : M b = none := by
  cases hx : M b with
  | none => rfl
  | some o => exact absurd (h.lt hx) (by omega)
theorem Mem.kp (h : Mem w M) (k : Kp S w w1) (hs : ∀ x, x ∈ S → M x = none) : Mem w1 M := fun b o hb => by
  rw [k.block b (h.lt hb) (fun x => by rw [hs b x] at hb; cases hb)]; exact h b o hb
theorem Mem.alloc (h : Mem w M) (o : Obj) : Mem (w.alloc o) M := h.kp ((Kp.refl [] w).alloc o) (by simp)
theorem Mem.setCell (h : Mem w M) {p : Addr} (hp : M p.block = none) (v : Value) : Mem (w.setCell p v) M := h.kp ((Kp.refl [p.block] w).setCell (.inl (by simp)) v) (by simpa using hp)
theorem Mem.drew (h : Mem w M) : Mem w.drew M := h
theorem Mem.drewN (h : Mem w M) (n : Nat) : Mem (w.drewN n) M := h
/-- A new block that nobody writes any more. -/
def Heap.put (M : Heap) (b : Nat) (o : Obj) : Heap := fun x => if x = b then some o else M x
theorem Heap.put_same : (M.put b o) b = some o := by simp [Heap.put]
theorem Heap.put_ne {x : Nat} (h : x ≠ b) : (M.put b o) x = M x := by simp [Heap.put, h]
theorem Mem.put (h : Mem w M) (hb : w.heap[b]? = some o) : Mem w (M.put b o) := fun x o' hx => by
  by_cases e : x = b
  · subst e; rw [Heap.put_same] at hx; injection hx with hx; subst hx; exact hb
  · rw [Heap.put_ne e] at hx; exact h x o' hx
theorem Ext.put (hn : n ≤ b) (hb : M b = none) : Ext n M (M.put b o) := by
  refine ⟨fun x o' hx => ?_, fun x o' hx => ?_⟩
  · rw [Heap.put_ne (by rintro rfl; rw [hb] at hx; cases hx)]; exact hx
  · by_cases e : x = b
    · exact .inr (e ▸ hn)
    · rw [Heap.put_ne e] at hx; exact .inl hx
theorem Box.lt (h : Box w M b c t) : b < w.heap.size := (Array.getElem?_eq_some_iff.1 h.blk).1
theorem Box.cell (h : Box w M b c t) (i : Nat) : w.cell? ⟨b, i, none⟩ = c[i]? := by simp [World.cell?, h.blk]
theorem Box.free (h : Box w M b c t) (i : Nat) : w.frozen? ⟨b, i, none⟩ = false := by simp [World.frozen?, h.blk]
theorem Box.kp (h : Box w M b c t) (k : Kp S w w1) (hs : b ∉ S) (e : Ext n M M1) (hn : b < n) : Box w1 M1 b c t := ⟨(k.block b h.lt hs).trans h.blk, e.no h.out hn⟩
theorem Box.set (h : Box w M b c t) (i : Nat) (v : Value) : Box (w.setCell ⟨b, i, none⟩ v) M b (c.setIfInBounds i v) t := by
  refine ⟨?_, h.out⟩
  simp only [World.setCell, Array.getElem?_modify, h.blk]
  simp
theorem Box.far (h : Box w M b c t) {p : Addr} (hp : b ≠ p.block) (v : Value) : Box (w.setCell p v) M b c t := ⟨(Below.heap_setCell _ _ _ _ hp).trans h.blk, h.out⟩
theorem Box.alloc (h : Box w M b c t) (o : Obj) : Box (w.alloc o) M b c t := ⟨(Below.heap_alloc _ _ _ h.lt).trans h.blk, h.out⟩
theorem Box.drew (h : Box w M b c t) : Box w.drew M b c t := ⟨h.blk, h.out⟩
theorem Box.drewN (h : Box w M b c t) (n : Nat) : Box (w.drewN n) M b c t := ⟨h.blk, h.out⟩
theorem Box.new (h : Mem w M) (c : Array Value) (t : TypeId) : Box (w.alloc (.cells c t)) M w.heap.size c t := ⟨heap_alloc_new w _, h.new⟩
theorem Box.put (h : Box w M b c t) (hn : b ≠ n) : Box w (M.put n o) b c t := ⟨h.blk, by rw [Heap.put_ne hn]; exact h.out⟩
theorem Box.same (h : Box w M b c t) (k : Kp S w w1) (hs : b ∉ S) : Box w1 M b c t := ⟨(k.block b h.lt hs).trans h.blk, h.out⟩
theorem Box.three {x y z : Value} (h : Box w M b #[x, y, z] t) : (w.cell? ⟨b, 0, none⟩ = some x ∧ w.cell? ⟨b, 1, none⟩ = some y ∧ w.cell? ⟨b, 2, none⟩ = some z) ∧ w.frozen? ⟨b, 0, none⟩ = false ∧ w.frozen? ⟨b, 1, none⟩ = false ∧ w.frozen? ⟨b, 2, none⟩ = false :=
  ⟨⟨h.cell 0, h.cell 1, h.cell 2⟩, h.free 0, h.free 1, h.free 2⟩
theorem Box.set3 {x y z x' y' z' : Value} (h : Box w M b #[x, y, z] t) : Box (((w.setCell ⟨b, 0, none⟩ x').setCell ⟨b, 1, none⟩ y').setCell ⟨b, 2, none⟩ z') M b #[x', y', z'] t := ((h.set 0 x').set 1 y').set 2 z'
theorem Kp.set3 {x' y' z' : Value} (h : Kp S w w1) (hb : b ∈ S ∨ w.heap.size ≤ b) : Kp S w (((w1.setCell ⟨b, 0, none⟩ x').setCell ⟨b, 1, none⟩ y').setCell ⟨b, 2, none⟩ z') := ((h.setCell hb _).setCell hb _).setCell hb _
end
/-- A cell that is only read. -/
def cellM (M : Heap) (a : Addr) : Option Value := match M a.block with
  | some (.cells c _ _) => if a.spot.isSome then none else c[a.off]?
  | _ => none
theorem Mem.cell {w : World} {M : Heap} (h : Mem w M) {a : Addr} {v : Value} (hv : cellM M a = some v) : w.cell? a = some v := by
  unfold cellM at hv
  split at hv
  · rename_i c t fr hb
    simp [World.cell?, h _ _ hb]
    simpa using hv
  · cases hv
theorem cellM_ext {n : Nat} {M M' : Heap} (e : Ext n M M') {a : Addr} {v : Value} (hv : cellM M a = some v) : cellM M' a = some v := by
  unfold cellM at hv
  split at hv
  · rename_i c t fr hb
    simp only [cellM, e.1 _ _ hb]
    exact hv
  · cases hv
/-- A row of n elements of one cell each. -/
def Row1 (M : Heap) (A : Option Addr) (vs : List Value) : Prop := ∀ j, (h : j < vs.length) → ∃ b o, A = some ⟨b, o, none⟩ ∧ cellM M ⟨b, o + j, none⟩ = some vs[j]
/-- An expression in memory: the value of three cells. -/
inductive ExM (M : Heap) : Value → E → Prop where
  | mk (op : Int) (s : Bs) (l : List E) (A : Option Addr) (c : Nat) (sv : Nat → Value) (hc : l.length ≤ c)
      (hrow : ∀ j, (h : j < l.length) → ∃ b o, A = some ⟨b, o, none⟩ ∧ cellM M ⟨b, o + j * 3, none⟩ = some (.int .i64 l[j].op) ∧ cellM M ⟨b, o + j * 3 + 1, none⟩ = some (.string (bs l[j].s)) ∧ cellM M ⟨b, o + j * 3 + 2, none⟩ = some (sv j))
      (hk : ∀ j, (h : j < l.length) → ExM M (.agg #[.int .i64 l[j].op, .string (bs l[j].s), sv j]) l[j]) :
      ExM M (.agg #[.int .i64 op, .string (bs s), .slice A l.length c]) (.mk op s l)
theorem ExM.ext {n : Nat} {M M' : Heap} (e : Ext n M M') {v : Value} {x : E} (h : ExM M v x) : ExM M' v x := by
  induction h with
  | mk op s l A c sv hc hrow hk ih =>
    refine ExM.mk op s l A c sv hc (fun j hj => ?_) ih
    obtain ⟨b, o, h1, h2, h3, h4⟩ := hrow j hj
    exact ⟨b, o, h1, cellM_ext e h2, cellM_ext e h3, cellM_ext e h4⟩
/-- An expression in memory, its value written out. -/
def ExV (M : Heap) (a : E) (A : Option Addr) (c : Nat) : Prop := ExM M (.agg #[.int .i64 a.op, .string (bs a.s), .slice A a.l.length c]) a
theorem ExV.ext {n : Nat} {M M' : Heap} {a : E} {A : Option Addr} {c : Nat} (h : ExV M a A c) (e : Ext n M M') : ExV M' a A c := ExM.ext e h
theorem ExM.form {M : Heap} {v : Value} {a : E} (h : ExM M v a) : ∃ A c, v = .agg #[.int .i64 a.op, .string (bs a.s), .slice A a.l.length c] ∧ ExV M a A c := by
  cases h with
  | mk op s l A c sv hc hrow hk => exact ⟨A, c, rfl, ExM.mk op s l A c sv hc hrow hk⟩
/-- The cells of expressions one behind the other: each with its list's place and capacity. -/
def flat (ps : List (E × Option Addr × Nat)) : List Value := ps.flatMap fun p => [.int .i64 p.1.op, .string (bs p.1.s), .slice p.2.1 p.1.l.length p.2.2]
theorem flat_length (ps : List (E × Option Addr × Nat)) : (flat ps).length = ps.length * 3 := by
  induction ps with
  | nil => rfl
  | cons p ps ih => simp only [flat, List.flatMap_cons, List.length_append, List.length_cons, List.length_nil] at *; omega
theorem flat_append (ps qs : List (E × Option Addr × Nat)) : flat (ps ++ qs) = flat ps ++ flat qs := by simp [flat]
theorem flat_get (ps : List (E × Option Addr × Nat)) : ∀ j, (h : j < ps.length) → (flat ps)[j * 3]? = some (.int .i64 ps[j].1.op) ∧ (flat ps)[j * 3 + 1]? = some (.string (bs ps[j].1.s)) ∧ (flat ps)[j * 3 + 2]? = some (.slice ps[j].2.1 ps[j].1.l.length ps[j].2.2) := by
  induction ps with
  | nil => intro j h; simp at h
  | cons p ps ih =>
    intro j h
    cases j with
    | zero => simp [flat]
    | succ j =>
      have hj : j < ps.length := by simpa using h
      have e : flat (p :: ps) = [.int .i64 p.1.op, .string (bs p.1.s), .slice p.2.1 p.1.l.length p.2.2] ++ flat ps := by simp [flat]
      have h3 := ih j hj
      rw [e]
      refine ⟨?_, ?_, ?_⟩
      · rw [List.getElem?_append_right (by simp; omega)]; simpa [Nat.add_mul] using h3.1
      · rw [List.getElem?_append_right (by simp; omega)]; have := h3.2.1; simp only [List.length_cons, List.length_nil, List.getElem_cons_succ]; rw [show (j + 1) * 3 + 1 - (0 + 1 + 1 + 1) = j * 3 + 1 by omega]; exact this
      · rw [List.getElem?_append_right (by simp; omega)]; have := h3.2.2; simp only [List.length_cons, List.length_nil, List.getElem_cons_succ]; rw [show (j + 1) * 3 + 2 - (0 + 1 + 1 + 1) = j * 3 + 2 by omega]; exact this
/-- A node over a row that lies in memory. -/
theorem ExV.node {M : Heap} {b cap : Nat} {cs : Array Value} {t : TypeId} {fr : Nat × Nat} {ps : List (E × Option Addr × Nat)} {spare : List Value} (op : Int) (s : Bs)
    (hb : M b = some (.cells cs t fr)) (hc : cs.toList = flat ps ++ spare) (hn : ps.length ≤ cap) (hp : ∀ j, (h : j < ps.length) → ExV M ps[j].1 ps[j].2.1 ps[j].2.2) :
    ExV M (.mk op s (ps.map (·.1))) (some ⟨b, 0, none⟩) cap := by
  have key : ∀ i v, (flat ps)[i]? = some v → cellM M ⟨b, 0 + i, none⟩ = some v := by
    intro i v hv
    simp only [cellM, hb, Option.isSome_none, Bool.false_eq_true, if_false, Nat.zero_add]
    rw [← Array.getElem?_toList, hc, List.getElem?_append_left (List.getElem?_eq_some_iff.1 hv).1]
    exact hv
  refine ExM.mk op s (ps.map (·.1)) _ cap (fun j => if h : j < ps.length then .slice ps[j].2.1 ps[j].1.l.length ps[j].2.2 else undef) (by simpa using hn) (fun j hj => ?_) (fun j hj => ?_)
  · have hj' : j < ps.length := by simpa using hj
    obtain ⟨h1, h2, h3⟩ := flat_get ps j hj'
    refine ⟨b, 0, rfl, ?_, ?_, ?_⟩
    · simpa using key _ _ h1
    · have := key _ _ h2; simpa [Nat.add_assoc] using this
    · rw [dif_pos hj']; have := key _ _ h3; simpa [Nat.add_assoc] using this
  · have hj' : j < ps.length := by simpa using hj
    rw [dif_pos hj']
    have := hp j hj'
    simpa [ExV] using this
/-- A node without others. -/
theorem ExV.leaf (M : Heap) (op : Int) (s : Bs) (A : Option Addr) (c : Nat) : ExV M (.mk op s []) A c :=
  ExM.mk op s [] A c (fun _ => undef) (Nat.zero_le _) (fun j hj => by simp at hj) (fun j hj => by simp at hj)
/-- A slice of the call's own that is appended to: its row lies at the head of block g; M says nothing of it. -/
structure Sl (w : World) (M : Heap) (e : TypeId) (size g n cap : Nat) (xs : List Value) : Prop where
  own : w.ownsRow 0 e size (.slice (some ⟨g, 0, none⟩) n cap) n xs
  out : M g = none
section
variable {w w1 : World} {M M1 : Heap} {e : TypeId} {size g n cap b : Nat} {xs : List Value} {S : List Nat}
theorem Sl.cells (h : Sl w M e size g n cap xs) : ∃ cur spare, w.heap[g]? = some (.cells cur e (0, 0)) ∧ n ≤ cap ∧ cur.toList = xs ++ spare := by
  obtain ⟨h1, h2⟩ := h.own
  rcases h2 with ⟨h2, _⟩ | ⟨g', cap', cur, h2, _, h3, h4, h5, h6, h7⟩
  · cases h2
  · injection h2 with h8 h9 h10
    injection h8 with h8
    injection h8 with h8
    subst h8; subst h10
    exact ⟨cur, cur.toList.drop (n * size), h3, h4, by rw [← h7, List.take_append_drop]⟩
theorem Sl.lt (h : Sl w M e size g n cap xs) : g < w.heap.size := by
  obtain ⟨cur, _, h1, _⟩ := h.cells
  exact (Array.getElem?_eq_some_iff.1 h1).1
theorem own_same (h : w.ownsRow 0 e size (.slice (some ⟨g, 0, none⟩) n cap) n xs) (hb : w1.heap[g]? = w.heap[g]?) : w1.ownsRow 0 e size (.slice (some ⟨g, 0, none⟩) n cap) n xs := by
  obtain ⟨h1, h2⟩ := h
  refine ⟨h1, ?_⟩
  rcases h2 with h2 | ⟨g', cap', cur, h2, h0, h3, r⟩
  · exact .inl h2
  · injection h2 with h8 h9 h10
    injection h8 with h8
    injection h8 with h8
    subst h8; subst h10
    exact .inr ⟨g, cap, cur, rfl, h0, hb.trans h3, r⟩
theorem Sl.same (h : Sl w M e size g n cap xs) (k : Kp S w w1) (hs : g ∉ S) : Sl w1 M e size g n cap xs := ⟨own_same h.own (k.block g h.lt hs), h.out⟩
theorem Sl.kp {m : Nat} (h : Sl w M e size g n cap xs) (k : Kp S w w1) (hs : g ∉ S) (x : Ext m M M1) (hm : g < m) : Sl w1 M1 e size g n cap xs := ⟨own_same h.own (k.block g h.lt hs), x.no h.out hm⟩
theorem Sl.alloc (h : Sl w M e size g n cap xs) (o : Obj) : Sl (w.alloc o) M e size g n cap xs := h.same ((Kp.refl [] w).alloc o) (by simp)
/-- A literal's row. -/
theorem Sl.lit (hb : w.heap[g]? = some (.cells xs.toArray e (0, 0))) (hM : M g = none) (hl : xs.length = n * size) (hm : n ≤ maxLen) : Sl w M e size g n n xs :=
  ⟨⟨hl, .inr ⟨g, n, xs.toArray, rfl, Nat.zero_le _, hb, Nat.le_refl _, hm, by simpa using hl, by rw [List.take_of_length_le (by simp [hl])]⟩⟩, hM⟩
theorem Sl.cell (h : Sl w M e size g n cap xs) {j : Nat} {v : Value} (hj : xs[j]? = some v) : w.cell? ⟨g, j, none⟩ = some v := by
  obtain ⟨cur, spare, h1, _, h2⟩ := h.cells
  simp only [World.cell?, h1, Option.isSome_none, Bool.false_eq_true, if_false]
  rw [← Array.getElem?_toList, h2, List.getElem?_append_left (List.getElem?_eq_some_iff.1 hj).1]
  exact hj
end
/-- What grows an own row keeps all else. -/
theorem Kp.of_grown {w w1 : World} {g n cap : Nat} (h : w.grownBy w1 (Value.ownBlock (.slice (some ⟨g, 0, none⟩) n cap))) : Kp [g] w w1 :=
  (Kp.refl [g] w).grown h (fun x hx => by simp only [Value.ownBlock, Option.some.injEq] at hx; subst hx; exact .inl (by simp))
/-- Expressions one behind the other, each in memory. -/
def AllV (M : Heap) (ps : List (E × Option Addr × Nat)) : Prop := ∀ j, (h : j < ps.length) → ExV M ps[j].1 ps[j].2.1 ps[j].2.2
theorem AllV.ext {n : Nat} {M M' : Heap} {ps : List (E × Option Addr × Nat)} (h : AllV M ps) (e : Ext n M M') : AllV M' ps := fun j hj => (h j hj).ext e
theorem AllV.snoc {M : Heap} {ps : List (E × Option Addr × Nat)} {p : E × Option Addr × Nat} (h : AllV M ps) (hp : ExV M p.1 p.2.1 p.2.2) : AllV M (ps ++ [p]) := by
  intro j hj
  rcases Nat.lt_or_ge j ps.length with hl | hl
  · rw [List.getElem_append_left hl]; exact h j hl
  · obtain rfl : j = ps.length := by simp at hj; omega
    rw [List.getElem_append_right (Nat.le_refl _)]; simpa using hp
theorem AllV.one {M : Heap} {a : E} {A : Option Addr} {c : Nat} (h : ExV M a A c) : AllV M [(a, A, c)] := fun j hj => by
  obtain rfl : j = 0 := by simpa using hj
  exact h
/-- A finished list becomes a node's. -/
theorem Sl.node {w : World} {M : Heap} {g n cap : Nat} {ps : List (E × Option Addr × Nat)} (h : Sl w M 24 3 g n cap (flat ps)) (hn : n = ps.length) (hM : Mem w M) (hp : AllV M ps) (op : Int) (s : Bs) (m : Nat) (hm : m ≤ g) :
    ∃ M', ExV M' (.mk op s (ps.map (·.1))) (some ⟨g, 0, none⟩) cap ∧ Mem w M' ∧ Ext m M M' ∧ ∀ b, b ≠ g → M b = none → M' b = none := by
  obtain ⟨cur, spare, h1, h2, h3⟩ := h.cells
  have he : Ext m M (M.put g (.cells cur 24 (0, 0))) := Ext.put hm h.out
  exact ⟨_, ExV.node op s Heap.put_same h3 (by omega) (hp.ext he), hM.put h1, he, fun b hb h0 => by rw [Heap.put_ne hb]; exact h0⟩
/-- Element types' rows of the program's table. -/
theorem Tryz.infoE : (Tryz.prog.info? 24).map (fun i => (i.zero, i.size, i.bytes)) = some (some (.agg #[.int .i64 0, .string ⟨#[]⟩, .slice none 0 0]), 3, 48) := by kernel_rfl
end Go.Proofs.YtgdnhlckodhhgaaGreatDoor

/-
  Small functions of the library and of the reader: isName, isSign, strings.HasPrefix, strings.IndexByte.
-/
namespace Go.Proofs.YtgdnhlckodhhgaaGreatDoor
open Go.RowKit
theorem cod_ne {c d : UInt8} (h : c ≠ d) : ((c.toNat : Int) == (d.toNat : Int)) = false := by
  rw [beq_eq_false_iff_ne]
  intro e
  exact h (UInt8.toNat_inj.1 (by omega))
theorem ret_bool {a b : Bool} (h : a = b) : Ending.returned (.bool a) = .returned (.bool b) := by rw [h]
theorem ret_int {k : IntKind} {a b : Int} (h : a = b) : Ending.returned (.int k a) = .returned (.int k b) := by rw [h]
theorem ret_str {a b : ByteArray} (h : a = b) : Ending.returned (.string a) = .returned (.string b) := by rw [h]
set_option maxHeartbeats 400000 in
theorem isName_calls (c : Int) (w : World) :
    Calls Tryz.prog 106 #[.int .u8 c] w fun e w' => e = .returned (.bool (isNameI c)) ∧ w = w' := by
  go_enter Tryz.func106, Tryz.ntmps106
  go_wp2
  all_goals
    go_ret
    exact ⟨ret_bool (by rw [Bool.eq_iff_iff]; simp [isNameI]; omega), rfl⟩
set_option maxHeartbeats 400000 in
theorem isSign_calls (c : Int) (w : World) :
    Calls Tryz.prog 108 #[.int .u8 c] w fun e w' => e = .returned (.bool (isSignI c)) ∧ w = w' := by
  go_enter Tryz.func108, Tryz.ntmps108
  go_wp2
  all_goals
    go_ret
    exact ⟨ret_bool (by rw [Bool.eq_iff_iff]; simp [isSignI]; omega), rfl⟩
def pre (s t : Bs) : Bool := decide (s.take t.length = t)
set_option maxHeartbeats 400000 in
theorem sHasPrefix_calls (s t : Bs) (w : World) :
    Calls Tryz.prog 171 #[.string (bs s), .string (bs t)] w fun e w' => e = .returned (.bool (pre s t)) ∧ w = w' := by
  have h1 := bs_size s
  have h2 := bs_size t
  have h3 := bs_extract s 0 t.length
  go_enter Tryz.func171, Tryz.ntmps171
  have h4 := bs_toList t
  have h5 := bs_toList (s.take t.length)
  go_wp2
  all_goals go_ret
  · exact ⟨ret_bool (by rw [Bool.eq_iff_iff]; simp [pre]), rfl⟩
  · have hlt : s.length < t.length := by omega
    exact ⟨ret_bool (by rw [pre, eq_comm, decide_eq_false_iff_not]; intro e; have := congrArg List.length e; simp at this; omega), rfl⟩
set_option maxHeartbeats 400000 in
theorem HasPrefix_calls (s t : Bs) (w : World) :
    Calls Tryz.prog 105 #[.string (bs s), .string (bs t)] w fun e w' => e = .returned (.bool (pre s t)) ∧ w = w' := by
  go_enter Tryz.func105, Tryz.ntmps105
  go_wp2_with (go_at_call 171; refine (sHasPrefix_calls _ _ _).mono ?_; rintro e w' ⟨rfl, rfl⟩)
  go_ret
  exact ⟨rfl, rfl⟩
def idx (s : Bs) (c : UInt8) : Int := Lib.indexByte s c
theorem idx_ge (s : Bs) (c : UInt8) : idx s c ≥ 0 ↔ c ∈ s := by
  unfold idx
  induction s with
  | nil => simp [Lib.indexByte]
  | cons b l ih =>
    have h1 := Lib.indexByte_ge l c
    simp only [Lib.indexByte, List.mem_cons]
    by_cases hb : b = c
    · simp [hb]
    · have hb' : (b == c) = false := by simpa using hb
      rw [hb']
      by_cases hm : c ∈ l
      · have h2 := ih.2 hm
        rw [if_neg (by simp), if_neg (by simp; omega)]
        simp [hm]; omega
      · have h2 : ¬ Lib.indexByte l c ≥ 0 := fun h => hm (ih.1 h)
        have h3 : Lib.indexByte l c = -1 := by omega
        simp [hm, h3, Ne.symm hb]
set_option maxHeartbeats 400000 in
theorem sIndexByte_calls (s : Bs) (c : UInt8) (w : World) :
    Calls Tryz.prog 172 #[.string (bs s), .int .u8 (c.toNat : Int)] w fun e w' => e = .returned (.int .i64 (idx s c)) ∧ w = w' := by
  have hx : ∀ w, (callFunc 201 #[.string (bs s), .int .u8 (c.toNat : Int)]).run Tryz.prog w = .ok (.value (.int .i64 (idx s c))) w := by
    intro w
    rw [run_callFunc_extern Tryz.func201 (by kernel_rfl) (by kernel_rfl) (by kernel_rfl) (e := Extern.BytealgIndexByte.indexByte) (by kernel_rfl), run_indexByte_string, Lib.firstIdx_eq]
    simp [Result.andThen, idx, bs]
  go_enter Tryz.func172, Tryz.ntmps172
  go_wp2
  go_ret
  exact ⟨rfl, rfl⟩
set_option maxHeartbeats 400000 in
theorem IndexByte_calls (s : Bs) (c : UInt8) (w : World) :
    Calls Tryz.prog 107 #[.string (bs s), .int .u8 (c.toNat : Int)] w fun e w' => e = .returned (.int .i64 (idx s c)) ∧ w = w' := by
  go_enter Tryz.func107, Tryz.ntmps107
  go_wp2_with (go_at_call 172; refine (sIndexByte_calls _ _ _).mono ?_; rintro e w' ⟨rfl, rfl⟩)
  go_ret
  exact ⟨rfl, rfl⟩
theorem HasPrefix_b (s : Bs) (t : ByteArray) (w : World) :
    Calls Tryz.prog 105 #[.string (bs s), .string t] w fun e w' => e = .returned (.bool (pre s t.data.toList)) ∧ w = w' := by
  have h := HasPrefix_calls s t.data.toList w
  rwa [bs_data] at h
theorem IndexByte_b (s : ByteArray) (c : UInt8) (w : World) :
    Calls Tryz.prog 107 #[.string s, .int .u8 (c.toNat : Int)] w fun e w' => e = .returned (.int .i64 (idx s.data.toList c)) ∧ w = w' := by
  have h := IndexByte_calls s.data.toList c w
  rwa [bs_data] at h
end Go.Proofs.YtgdnhlckodhhgaaGreatDoor

/-
  The program's tokens: isName, isSign, HasPrefix, IndexByte, token, take, begins.
-/
namespace Go.Proofs.YtgdnhlckodhhgaaGreatDoor
open Go.RowKit
/-- The reader's state: what is left of the text l is r. -/
def at_ (l r : Bs) : Nat := l.length - r.length
theorem _root_.Go.RowKit.Hid.mk {p : Prop} (h : p) : Hid p := h
structure Rd (w : World) (M : Heap) (g : Nat) (l r : Bs) : Prop where
  box : Box w M g #[.string (bs l), .int .i64 (at_ l r : Nat)] 102
  suf : r <:+ l
theorem Rd.mk' {w : World} {M : Heap} {g : Nat} {l r : Bs} {p : Nat} (h : Box w M g #[.string (bs l), .int .i64 (p : Int)] 102) (hs : r <:+ l) (hp : p = at_ l r) : Rd w M g l r := ⟨hp ▸ h, hs⟩
theorem bs_get {l r : Bs} {c : UInt8} (h : (c :: r) <:+ l) : ∃ hlt : at_ l (c :: r) < (bs l).size, (bs l)[at_ l (c :: r)] = c := by
  obtain ⟨p, rfl⟩ := h
  have e : at_ (p ++ c :: r) (c :: r) = p.length := by simp [at_]
  rw [e]
  refine ⟨by rw [bs_size]; simp, ?_⟩
  simp [bs, ByteArray.getElem_eq_getElem_data]
theorem run_spec (q : Bs) : (∀ k, k < run q → ∃ h : k < q.length, signB q[k] = true) ∧ run q ≤ q.length ∧ ∀ h : run q < q.length, signB q[run q] = false := by
  unfold run
  induction q with
  | nil => simp
  | cons c q ih =>
    by_cases hc : signB c = true
    · rw [List.takeWhile_cons_of_pos hc]
      refine ⟨fun k hk => ?_, by simpa using ih.2.1, fun h => ?_⟩
      · cases k with
        | zero => exact ⟨by simp, hc⟩
        | succ k => obtain ⟨h1, h2⟩ := ih.1 k (by simpa using hk); exact ⟨by simpa using h1, h2⟩
      · exact ih.2.2 (by simpa using h)
    · rw [List.takeWhile_cons_of_neg hc]
      exact ⟨fun k hk => by simp at hk, by simp, fun h => by simpa using hc⟩
/-- How reading a token of q (what is left of l) ends. -/
def TokEnd (l q : Bs) (e : Ending) : Prop := match tk q with
  | some u => e = .returned (.string (bs u))
  | none => e = .panicked [{ v := .iface 98 (.agg #[.int .i64 (at_ l q : Nat)]), recovered := false }]
theorem tokEnd_some {l q u : Bs} {e : Ending} (h : tk q = some u) (he : e = .returned (.string (bs u))) : TokEnd l q e := by unfold TokEnd; rw [h]; exact he
theorem tokEnd_none {l q : Bs} {e : Ending} (h : tk q = none) (he : e = .panicked [{ v := .iface 98 (.agg #[.int .i64 (at_ l q : Nat)]), recovered := false }]) : TokEnd l q e := by unfold TokEnd; rw [h]; exact he
theorem pre_iff {s t : Bs} : pre s t = true ↔ s.take t.length = t := by simp [pre]
theorem tk_pre {c : UInt8} {r : Bs} (h : pre (c :: r) [61, 62] = true ∨ pre (c :: r) [91, 93] = true) : tk (c :: r) = some ((c :: r).take 2) := by
  have h' : (c :: r).take 2 = [61, 62] ∨ (c :: r).take 2 = [91, 93] := by simp only [pre_iff] at h; exact h
  simp only [tk]; rw [if_pos h']
theorem tk_one {c : UInt8} {r : Bs} (h1 : pre (c :: r) [61, 62] = false) (h2 : pre (c :: r) [91, 93] = false) (h : nameB c = true ∨ c ∈ marks) : tk (c :: r) = some [c] := by
  have h1' : ¬ (c :: r).take 2 = [61, 62] := by simpa [pre] using h1
  have h2' : ¬ (c :: r).take 2 = [91, 93] := by simpa [pre] using h2
  simp only [tk]; rw [if_neg (by rintro (h | h) <;> contradiction), if_pos h]
theorem tk_rest {c : UInt8} {r : Bs} (h1 : pre (c :: r) [61, 62] = false) (h2 : pre (c :: r) [91, 93] = false) (h3 : nameB c = false) (h4 : c ∉ marks) : tk (c :: r) = 
    if c = 92 ∧ r ≠ [] ∧ signB (r.headD 0) = true ∧ nameB (r.headD 0) = false then some ((c :: r).take 2)
    else if c = 60 ∧ 2 ≤ run r ∧ run r ≤ 16 ∧ (r.drop (run r)).headD 0 = 62 ∧ run r < r.length then some ((c :: r).take (run r + 2))
    else none := by
  have h1' : ¬ (c :: r).take 2 = [61, 62] := by simpa [pre] using h1
  have h2' : ¬ (c :: r).take 2 = [91, 93] := by simpa [pre] using h2
  simp only [tk]; rw [if_neg (by rintro (h | h) <;> contradiction), if_neg (by rintro (h | h); (rw [h3] at h; cases h); exact h4 h)]
set_option maxRecDepth 100000 in
set_option maxHeartbeats 4000000 in
theorem token_calls (g : Nat) (l r : Bs) (w : World) (M : Heap) (hR : Rd w M g l r) (hl : l.length ≤ 6000) :
    Calls Tryz.prog 64 #[.pointer (some ⟨g, 0, none⟩)] w fun e w' => TokEnd l (sk r) e ∧ Rd w' M g l (sk r) ∧ Kp [g] w w' := by
  go_enter Tryz.func64, Tryz.ntmps64
  go_upto_block 0 with (fail)
  go_cut [] (fun wr => Rd wr M g l (sk r) ∧ Kp [g] w wr)
  case first =>
    go_wp2_with fail
    go_loopg [] r.length (fun k wr => ∃ r' : Bs, k = r'.length ∧ sk r' = sk r ∧ Rd wr M g l r' ∧ Kp [g] w wr)
    case atStart => exact ⟨r, rfl, rfl, hR, Kp.refl _ _⟩
    case round =>
      obtain ⟨j, hj, hs, hR', hK⟩ := hrel
      have hc0 : wr.cell? ⟨g, 0, none⟩ = some (.string (bs l)) := hR'.box.cell 0
      have hc1 : wr.cell? ⟨g, 1, none⟩ = some (.int .i64 (at_ l j : Nat)) := hR'.box.cell 1
      have hf1 : wr.frozen? ⟨g, 1, none⟩ = false := hR'.box.free 1
      have hsz := bs_size l
      have A : Aside (gk = j.length ∧ sk j = sk r ∧ Rd wr M g l j ∧ Kp [g] w wr) := ⟨hj, hs, hR', hK⟩
      cases j with
      | nil =>
        have hp : at_ l [] = l.length := by simp [at_]
        rw [hp] at hc1
        clear hj hs hR' hK hp
        go_wp2_with fail
        go_quiet (fail)
        go_wp2_with fail
        go_meet
        case rel =>
          obtain ⟨hj, hs, hR', hK⟩ := A.out
          rw [← hs]
          exact ⟨⟨hR'.box.drewN _, hR'.suf⟩, hK.drewN _⟩
      | cons c j =>
        obtain ⟨hlt, hb⟩ := bs_get hR'.suf
        have hp : at_ l (c :: j) + (j.length + 1) = l.length := by have := hR'.suf.length_le; simp [at_] at *; omega
        generalize at_ l (c :: j) = p at *
        clear hj hs hR' hK
        have h0 : (0 : Int) ≤ p := by omega
        have h1 : (p : Int) < (l.length : Int) := by omega
        by_cases hc : c = 32
        · have hb32 : ((c.toNat : Int) == 32) = true := by rw [hc]; rfl
          go_wp2_with fail
          go_quiet (fail)
          go_wp2_with fail
          obtain ⟨hj, hs, hR', hK⟩ := A.out
          go_roundg (gk - 1)
          case measure => rw [hj]; simp
          case rel =>
            refine ⟨j, by rw [hj]; simp, by rw [← hs, hc]; rfl, ?_, ?_⟩
            · refine Rd.mk' ((hR'.box.drewN nq).set 1 _) ((List.suffix_cons _ _).trans hR'.suf) (p := p + 1) ?_
              simp [at_]; omega
            · exact (hK.drewN nq).setCell (.inl (by simp)) _
        · have hb32 : ((c.toNat : Int) == 32) = false := cod_ne hc
          go_wp2_with fail
          go_quiet (fail)
          go_wp2_with fail
          go_meet
          case rel =>
            obtain ⟨hj, hs, hR', hK⟩ := A.out
            have e : sk r = c :: j := by rw [← hs, sk, List.dropWhile_cons, if_neg (by simpa using hc)]
            rw [e]
            exact ⟨⟨hR'.box.drewN _, hR'.suf⟩, hK.drewN _⟩
  case rest =>
    obtain ⟨hR', hK⟩ := hcut
    obtain ⟨q, hq⟩ : ∃ q, q = sk r := ⟨_, rfl⟩
    rw [← hq] at hR'
    have Hq := Hid.mk hq
    clear hq
    have hc0 : wc.cell? ⟨g, 0, none⟩ = some (.string (bs l)) := hR'.box.cell 0
    have hc1 : wc.cell? ⟨g, 1, none⟩ = some (.int .i64 (at_ l q : Nat)) := hR'.box.cell 1
    have hp : at_ l q + q.length = l.length := by have := hR'.suf.length_le; simp [at_]; omega
    have he : (bs l).extract (at_ l q) l.length = bs q := by
      obtain ⟨z, rfl⟩ := hR'.suf
      rw [bs_extract]; congr 1
      rw [List.take_of_length_le (Nat.le_refl _)]
      have : at_ (z ++ q) q = z.length := by simp [at_]
      rw [this]; simp
    have hsz := bs_size l
    have A : Aside (Rd wc M g l q ∧ Kp [g] w wc) := ⟨hR', hK⟩
    clear hR' hK
    generalize hpe : at_ l q = p at *
    have Hp := Hid.mk hpe
    clear hpe
    have fin : ∀ n, Rd (wc.drewN n) M g l q ∧ Kp [g] w (wc.drewN n) := fun n => ⟨⟨A.out.1.box.drewN n, A.out.1.suf⟩, A.out.2.drewN n⟩
    have Fin := Hid.mk fin
    clear fin A
    cases q with
    | nil =>
      have hz : (bs []).toList = [] := bs_toList _
      go_wp2_with fail
      go_quiet (fail)
      go_wp2_with fail
      go_ret
      rw [← Hq.out]; exact ⟨tokEnd_some (u := []) rfl rfl, Fin.out _⟩
    | cons c q' =>
      have hz : (bs (c :: q')).size = q'.length + 1 := bs_size _
      have hzl : (bs (c :: q')).toList = c :: q' := bs_toList _
      have hq0 : (bs (c :: q'))[0]'(by rw [hz]; omega) = c := by simp [bs, ByteArray.getElem_eq_getElem_data]
      by_cases hB1 : pre (c :: q') [61, 62] = true
      · have hx2 : (bs (c :: q')).extract 0 2 = bs ((c :: q').take 2) := bs_extract _ _ _
        have h2 : 1 ≤ q'.length := by rw [pre_iff] at hB1; have := congrArg List.length hB1; simp at this; omega
        have Hk := Hid.mk (tk_pre (.inl hB1))
        go_wp2_with (first | (go_at_call 105; refine (HasPrefix_b _ _ _).mono ?_; rintro e w' ⟨rfl, rfl⟩))
        go_quiet (fail)
        go_wp2_with (first | (go_at_call 105; refine (HasPrefix_b _ _ _).mono ?_; rintro e w' ⟨rfl, rfl⟩))
        go_ret
        rw [← Hq.out]; exact ⟨tokEnd_some Hk.out rfl, Fin.out _⟩
      · replace hB1 := Bool.eq_false_iff.2 hB1
        by_cases hB2 : pre (c :: q') [91, 93] = true
        · have hx2 : (bs (c :: q')).extract 0 2 = bs ((c :: q').take 2) := bs_extract _ _ _
          have h2 : 1 ≤ q'.length := by rw [pre_iff] at hB2; have := congrArg List.length hB2; simp at this; omega
          have Hk := Hid.mk (tk_pre (.inr hB2))
          go_wp2_with (first | (go_at_call 105; refine (HasPrefix_b _ _ _).mono ?_; rintro e w' ⟨rfl, rfl⟩))
          go_quiet (fail)
          go_wp2_with (first | (go_at_call 105; refine (HasPrefix_b _ _ _).mono ?_; rintro e w' ⟨rfl, rfl⟩))
          go_ret
          rw [← Hq.out]; exact ⟨tokEnd_some Hk.out rfl, Fin.out _⟩
        · replace hB2 := Bool.eq_false_iff.2 hB2
          by_cases hN : isNameI c.toNat = true
          · have hx2 : (bs (c :: q')).extract 0 1 = bs [c] := bs_extract _ _ _
            have Hk := Hid.mk (tk_one hB1 hB2 (.inl hN))
            go_wp2_with (first | (go_at_call 105; refine (HasPrefix_b _ _ _).mono ?_; rintro e w' ⟨rfl, rfl⟩) | (go_at_call 106; refine (isName_calls _ _).mono ?_; rintro e w' ⟨rfl, rfl⟩))
            go_quiet (fail)
            go_wp2_with (first | (go_at_call 105; refine (HasPrefix_b _ _ _).mono ?_; rintro e w' ⟨rfl, rfl⟩) | (go_at_call 106; refine (isName_calls _ _).mono ?_; rintro e w' ⟨rfl, rfl⟩))
            go_ret
            rw [← Hq.out]; exact ⟨tokEnd_some Hk.out rfl, Fin.out _⟩
          · replace hN := Bool.eq_false_iff.2 hN
            by_cases hM : idx marks c ≥ 0
            · have hx2 : (bs (c :: q')).extract 0 1 = bs [c] := bs_extract _ _ _
              have Hk := Hid.mk (tk_one hB1 hB2 (.inr ((idx_ge _ _).1 hM)))
              unfold marks at hM
              go_wp2_with (first | (go_at_call 105; refine (HasPrefix_b _ _ _).mono ?_; rintro e w' ⟨rfl, rfl⟩) | (go_at_call 106; refine (isName_calls _ _).mono ?_; rintro e w' ⟨rfl, rfl⟩) | (go_at_call 107; refine (IndexByte_b _ _ _).mono ?_; rintro e w' ⟨rfl, rfl⟩))
              go_quiet (fail)
              go_wp2_with (first | (go_at_call 105; refine (HasPrefix_b _ _ _).mono ?_; rintro e w' ⟨rfl, rfl⟩) | (go_at_call 106; refine (isName_calls _ _).mono ?_; rintro e w' ⟨rfl, rfl⟩) | (go_at_call 107; refine (IndexByte_b _ _ _).mono ?_; rintro e w' ⟨rfl, rfl⟩))
              go_ret
              rw [← Hq.out]; exact ⟨tokEnd_some Hk.out rfl, Fin.out _⟩
            · have Hk := Hid.mk (tk_rest hB1 hB2 hN (fun h => hM ((idx_ge _ _).2 h)))
              replace hM : ¬ 0 ≤ idx marks c := hM
              unfold marks at hM
              by_cases h92 : c = 92
              · have b92 : ((c.toNat : Int) == 92) = true := by rw [h92]; rfl
                have b60 : ((c.toNat : Int) == 60) = false := by rw [h92]; rfl
                have Hc := Hid.mk h92
                clear h92
                cases q' with
                | nil =>
                  have Hn := Hid.mk (show tk [c] = none by rw [Hk.out]; simp [Hc.out])
                  go_wp2_with (first | (go_at_call 105; refine (HasPrefix_b _ _ _).mono ?_; rintro e w' ⟨rfl, rfl⟩) | (go_at_call 106; refine (isName_calls _ _).mono ?_; rintro e w' ⟨rfl, rfl⟩) | (go_at_call 107; refine (IndexByte_b _ _ _).mono ?_; rintro e w' ⟨rfl, rfl⟩) | (go_at_call 108; refine (isSign_calls _ _).mono ?_; rintro e w' ⟨rfl, rfl⟩))
                  go_quiet (fail)
                  go_wp2_with (first | (go_at_call 105; refine (HasPrefix_b _ _ _).mono ?_; rintro e w' ⟨rfl, rfl⟩) | (go_at_call 106; refine (isName_calls _ _).mono ?_; rintro e w' ⟨rfl, rfl⟩) | (go_at_call 107; refine (IndexByte_b _ _ _).mono ?_; rintro e w' ⟨rfl, rfl⟩) | (go_at_call 108; refine (isSign_calls _ _).mono ?_; rintro e w' ⟨rfl, rfl⟩))
                  exact ⟨rfl, by rw [← Hq.out]; exact ⟨tokEnd_none Hn.out (by rw [Hp.out]), Fin.out _⟩⟩
                | cons d q'' =>
                  have hx2 : (bs (c :: d :: q'')).extract 0 2 = bs [c, d] := bs_extract _ _ _
                  have hq1 : (bs (c :: d :: q''))[1]'(by rw [hz]; simp) = d := by simp [bs, ByteArray.getElem_eq_getElem_data]
                  by_cases hs : isSignI d.toNat = true
                  · by_cases hn : isNameI d.toNat = true
                    · have Hn := Hid.mk (show tk (c :: d :: q'') = none by rw [Hk.out]; have : nameB d = true := hn; simp [Hc.out, this])
                      go_wp2_with (first | (go_at_call 105; refine (HasPrefix_b _ _ _).mono ?_; rintro e w' ⟨rfl, rfl⟩) | (go_at_call 106; refine (isName_calls _ _).mono ?_; rintro e w' ⟨rfl, rfl⟩) | (go_at_call 107; refine (IndexByte_b _ _ _).mono ?_; rintro e w' ⟨rfl, rfl⟩) | (go_at_call 108; refine (isSign_calls _ _).mono ?_; rintro e w' ⟨rfl, rfl⟩))
                      go_quiet (fail)
                      go_wp2_with (first | (go_at_call 105; refine (HasPrefix_b _ _ _).mono ?_; rintro e w' ⟨rfl, rfl⟩) | (go_at_call 106; refine (isName_calls _ _).mono ?_; rintro e w' ⟨rfl, rfl⟩) | (go_at_call 107; refine (IndexByte_b _ _ _).mono ?_; rintro e w' ⟨rfl, rfl⟩) | (go_at_call 108; refine (isSign_calls _ _).mono ?_; rintro e w' ⟨rfl, rfl⟩))
                      exact ⟨rfl, by rw [← Hq.out]; exact ⟨tokEnd_none Hn.out (by rw [Hp.out]), Fin.out _⟩⟩
                    · replace hn := Bool.eq_false_iff.2 hn
                      have Hn := Hid.mk (show tk (c :: d :: q'') = some [c, d] by rw [Hk.out]; have : nameB d = false := hn; have : signB d = true := hs; simp [Hc.out, *])
                      go_wp2_with (first | (go_at_call 105; refine (HasPrefix_b _ _ _).mono ?_; rintro e w' ⟨rfl, rfl⟩) | (go_at_call 106; refine (isName_calls _ _).mono ?_; rintro e w' ⟨rfl, rfl⟩) | (go_at_call 107; refine (IndexByte_b _ _ _).mono ?_; rintro e w' ⟨rfl, rfl⟩) | (go_at_call 108; refine (isSign_calls _ _).mono ?_; rintro e w' ⟨rfl, rfl⟩))
                      go_quiet (fail)
                      go_wp2_with (first | (go_at_call 105; refine (HasPrefix_b _ _ _).mono ?_; rintro e w' ⟨rfl, rfl⟩) | (go_at_call 106; refine (isName_calls _ _).mono ?_; rintro e w' ⟨rfl, rfl⟩) | (go_at_call 107; refine (IndexByte_b _ _ _).mono ?_; rintro e w' ⟨rfl, rfl⟩) | (go_at_call 108; refine (isSign_calls _ _).mono ?_; rintro e w' ⟨rfl, rfl⟩))
                      go_ret
                      rw [← Hq.out]; exact ⟨tokEnd_some Hn.out rfl, Fin.out _⟩
                  · replace hs := Bool.eq_false_iff.2 hs
                    have Hn := Hid.mk (show tk (c :: d :: q'') = none by rw [Hk.out]; have : signB d = false := hs; simp [Hc.out, this])
                    go_wp2_with (first | (go_at_call 105; refine (HasPrefix_b _ _ _).mono ?_; rintro e w' ⟨rfl, rfl⟩) | (go_at_call 106; refine (isName_calls _ _).mono ?_; rintro e w' ⟨rfl, rfl⟩) | (go_at_call 107; refine (IndexByte_b _ _ _).mono ?_; rintro e w' ⟨rfl, rfl⟩) | (go_at_call 108; refine (isSign_calls _ _).mono ?_; rintro e w' ⟨rfl, rfl⟩))
                    go_quiet (fail)
                    go_wp2_with (first | (go_at_call 105; refine (HasPrefix_b _ _ _).mono ?_; rintro e w' ⟨rfl, rfl⟩) | (go_at_call 106; refine (isName_calls _ _).mono ?_; rintro e w' ⟨rfl, rfl⟩) | (go_at_call 107; refine (IndexByte_b _ _ _).mono ?_; rintro e w' ⟨rfl, rfl⟩) | (go_at_call 108; refine (isSign_calls _ _).mono ?_; rintro e w' ⟨rfl, rfl⟩))
                    exact ⟨rfl, by rw [← Hq.out]; exact ⟨tokEnd_none Hn.out (by rw [Hp.out]), Fin.out _⟩⟩
              · have b92 : ((c.toNat : Int) == 92) = false := cod_ne h92
                by_cases h60 : c = 60
                · have b60 : ((c.toNat : Int) == 60) = true := by rw [h60]; rfl
                  have Hk2 := Hid.mk (Hk.out.trans (if_neg (fun h => h92 h.1)))
                  have Hc := Hid.mk h60
                  clear h60 h92
                  obtain ⟨hr1, hr2, hr3⟩ := run_spec q'
                  have hq6 : q'.length ≤ 6000 := by simp at hp; omega
                  have Hr1 := Hid.mk hr1
                  have Hr3 := Hid.mk hr3
                  clear hr1 hr3
                  go_wp2_with (first | (go_at_call 105; refine (HasPrefix_b _ _ _).mono ?_; rintro e w' ⟨rfl, rfl⟩) | (go_at_call 106; refine (isName_calls _ _).mono ?_; rintro e w' ⟨rfl, rfl⟩) | (go_at_call 107; refine (IndexByte_b _ _ _).mono ?_; rintro e w' ⟨rfl, rfl⟩) | (go_at_call 108; refine (isSign_calls _ _).mono ?_; rintro e w' ⟨rfl, rfl⟩))
                  go_quiet (fail)
                  go_wp2_with (first | (go_at_call 105; refine (HasPrefix_b _ _ _).mono ?_; rintro e w' ⟨rfl, rfl⟩) | (go_at_call 106; refine (isName_calls _ _).mono ?_; rintro e w' ⟨rfl, rfl⟩) | (go_at_call 107; refine (IndexByte_b _ _ _).mono ?_; rintro e w' ⟨rfl, rfl⟩) | (go_at_call 108; refine (isSign_calls _ _).mono ?_; rintro e w' ⟨rfl, rfl⟩))
                  go_loop [5] (fun v => ∃ j : Nat, j ≤ run q' ∧ v = .int .i64 ((j + 1 : Nat) : Int)) (fun v => run q' + 2 - (intOf v).toNat)
                  case atStart => exact ⟨0, Nat.zero_le _, rfl⟩
                  case round =>
                    obtain ⟨j, hj, rfl⟩ := hrel
                    have hj0 : (0 : Int) ≤ (j : Int) + 1 := by omega
                    by_cases hj1 : j < run q'
                    · have hj2 : j + 1 < q'.length + 1 := by omega
                      have hx : (bs (c :: q'))[j + 1]'(by rw [hz]; exact hj2) = q'[j] := by simp [bs, ByteArray.getElem_eq_getElem_data]
                      have hs : isSignI (q'[j].toNat : Int) = true := (Hr1.out j hj1).2
                      go_wp2_with (first | (go_at_call 105; refine (HasPrefix_b _ _ _).mono ?_; rintro e w' ⟨rfl, rfl⟩) | (go_at_call 106; refine (isName_calls _ _).mono ?_; rintro e w' ⟨rfl, rfl⟩) | (go_at_call 107; refine (IndexByte_b _ _ _).mono ?_; rintro e w' ⟨rfl, rfl⟩) | (go_at_call 108; refine (isSign_calls _ _).mono ?_; rintro e w' ⟨rfl, rfl⟩))
                      go_round
                      case rel => exact ⟨j + 1, by omega, by go_num⟩
                      case measure => simp [intOf]; omega
                    · obtain rfl : j = run q' := by omega
                      clear hj hj1
                      have HR := Hid.mk (rfl : run q' = run q')
                      generalize run q' = R at *
                      by_cases hA : R = q'.length
                      · have hlt : ¬ ((R : Int) + 1 < (q'.length : Int) + 1) := by omega
                        have hge : (q'.length : Int) + 1 ≤ (R : Int) + 1 := by omega
                        have Hn := Hid.mk (show tk (c :: q') = none by rw [Hk2.out, if_neg]; rintro ⟨_, _, _, _, h⟩; omega)
                        clear hA
                        by_cases h3 : (3 : Int) ≤ (R : Int) + 1
                        · by_cases h17 : (R : Int) + 1 ≤ 17
                          · go_wp2_with (first | (go_at_call 105; refine (HasPrefix_b _ _ _).mono ?_; rintro e w' ⟨rfl, rfl⟩) | (go_at_call 106; refine (isName_calls _ _).mono ?_; rintro e w' ⟨rfl, rfl⟩) | (go_at_call 107; refine (IndexByte_b _ _ _).mono ?_; rintro e w' ⟨rfl, rfl⟩) | (go_at_call 108; refine (isSign_calls _ _).mono ?_; rintro e w' ⟨rfl, rfl⟩))
                            exact ⟨rfl, by rw [← Hq.out]; exact ⟨tokEnd_none Hn.out (by rw [Hp.out]), Fin.out _⟩⟩
                          · go_wp2_with (first | (go_at_call 105; refine (HasPrefix_b _ _ _).mono ?_; rintro e w' ⟨rfl, rfl⟩) | (go_at_call 106; refine (isName_calls _ _).mono ?_; rintro e w' ⟨rfl, rfl⟩) | (go_at_call 107; refine (IndexByte_b _ _ _).mono ?_; rintro e w' ⟨rfl, rfl⟩) | (go_at_call 108; refine (isSign_calls _ _).mono ?_; rintro e w' ⟨rfl, rfl⟩))
                            exact ⟨rfl, by rw [← Hq.out]; exact ⟨tokEnd_none Hn.out (by rw [Hp.out]), Fin.out _⟩⟩
                        · go_wp2_with (first | (go_at_call 105; refine (HasPrefix_b _ _ _).mono ?_; rintro e w' ⟨rfl, rfl⟩) | (go_at_call 106; refine (isName_calls _ _).mono ?_; rintro e w' ⟨rfl, rfl⟩) | (go_at_call 107; refine (IndexByte_b _ _ _).mono ?_; rintro e w' ⟨rfl, rfl⟩) | (go_at_call 108; refine (isSign_calls _ _).mono ?_; rintro e w' ⟨rfl, rfl⟩))
                          exact ⟨rfl, by rw [← Hq.out]; exact ⟨tokEnd_none Hn.out (by rw [Hp.out]), Fin.out _⟩⟩
                      · have hlt : R + 1 < q'.length + 1 := by omega
                        have hx : (bs (c :: q'))[R + 1]'(by rw [hz]; exact hlt) = q'[R] := by simp [bs, ByteArray.getElem_eq_getElem_data]
                        have hs : isSignI (q'[R].toNat : Int) = false := Hr3.out (by omega)
                        have hdr : (q'.drop R).headD 0 = q'[R]'(by omega) := by rw [List.drop_eq_getElem_cons (by omega)]; rfl
                        have Hd := Hid.mk hdr
                        have HA := Hid.mk hA
                        clear hdr hA
                        by_cases h3 : (3 : Int) ≤ (R : Int) + 1
                        · by_cases h17 : (R : Int) + 1 ≤ 17
                          · by_cases h62 : q'[R]'(by omega) = 62
                            · have b62 : (((q'[R]'(by omega)).toNat : Int) == 62) = true := by rw [h62]; rfl
                              have hx2 : (bs (c :: q')).extract 0 (R + 2) = bs ((c :: q').take (R + 2)) := bs_extract _ _ _
                              have Hn := Hid.mk (show tk (c :: q') = some ((c :: q').take (R + 2)) by rw [Hk2.out, if_pos ⟨Hc.out, by omega, by omega, by rw [Hd.out, h62], by omega⟩])
                              have H62 := Hid.mk h62
                              clear h62
                              go_wp2_with (first | (go_at_call 105; refine (HasPrefix_b _ _ _).mono ?_; rintro e w' ⟨rfl, rfl⟩) | (go_at_call 106; refine (isName_calls _ _).mono ?_; rintro e w' ⟨rfl, rfl⟩) | (go_at_call 107; refine (IndexByte_b _ _ _).mono ?_; rintro e w' ⟨rfl, rfl⟩) | (go_at_call 108; refine (isSign_calls _ _).mono ?_; rintro e w' ⟨rfl, rfl⟩))
                              go_ret
                              rw [← Hq.out]; exact ⟨tokEnd_some Hn.out (ret_str (bs_extract _ _ _)), Fin.out _⟩
                            · have b62 : (((q'[R]'(by omega)).toNat : Int) == 62) = false := cod_ne h62
                              have Hn := Hid.mk (show tk (c :: q') = none by rw [Hk2.out, if_neg]; rintro ⟨_, _, _, h, _⟩; rw [Hd.out] at h; exact h62 h)
                              clear h62
                              go_wp2_with (first | (go_at_call 105; refine (HasPrefix_b _ _ _).mono ?_; rintro e w' ⟨rfl, rfl⟩) | (go_at_call 106; refine (isName_calls _ _).mono ?_; rintro e w' ⟨rfl, rfl⟩) | (go_at_call 107; refine (IndexByte_b _ _ _).mono ?_; rintro e w' ⟨rfl, rfl⟩) | (go_at_call 108; refine (isSign_calls _ _).mono ?_; rintro e w' ⟨rfl, rfl⟩))
                              exact ⟨rfl, by rw [← Hq.out]; exact ⟨tokEnd_none Hn.out (by rw [Hp.out]), Fin.out _⟩⟩
                          · have Hn := Hid.mk (show tk (c :: q') = none by rw [Hk2.out, if_neg]; rintro ⟨_, _, h, _⟩; omega)
                            go_wp2_with (first | (go_at_call 105; refine (HasPrefix_b _ _ _).mono ?_; rintro e w' ⟨rfl, rfl⟩) | (go_at_call 106; refine (isName_calls _ _).mono ?_; rintro e w' ⟨rfl, rfl⟩) | (go_at_call 107; refine (IndexByte_b _ _ _).mono ?_; rintro e w' ⟨rfl, rfl⟩) | (go_at_call 108; refine (isSign_calls _ _).mono ?_; rintro e w' ⟨rfl, rfl⟩))
                            exact ⟨rfl, by rw [← Hq.out]; exact ⟨tokEnd_none Hn.out (by rw [Hp.out]), Fin.out _⟩⟩
                        · have Hn := Hid.mk (show tk (c :: q') = none by rw [Hk2.out, if_neg]; rintro ⟨_, h, _⟩; omega)
                          go_wp2_with (first | (go_at_call 105; refine (HasPrefix_b _ _ _).mono ?_; rintro e w' ⟨rfl, rfl⟩) | (go_at_call 106; refine (isName_calls _ _).mono ?_; rintro e w' ⟨rfl, rfl⟩) | (go_at_call 107; refine (IndexByte_b _ _ _).mono ?_; rintro e w' ⟨rfl, rfl⟩) | (go_at_call 108; refine (isSign_calls _ _).mono ?_; rintro e w' ⟨rfl, rfl⟩))
                          exact ⟨rfl, by rw [← Hq.out]; exact ⟨tokEnd_none Hn.out (by rw [Hp.out]), Fin.out _⟩⟩
                · have b60 : ((c.toNat : Int) == 60) = false := cod_ne h60
                  have Hn := Hid.mk (show tk (c :: q') = none by rw [Hk.out]; simp [h92, h60])
                  clear h92 h60
                  go_wp2_with (first | (go_at_call 105; refine (HasPrefix_b _ _ _).mono ?_; rintro e w' ⟨rfl, rfl⟩) | (go_at_call 106; refine (isName_calls _ _).mono ?_; rintro e w' ⟨rfl, rfl⟩) | (go_at_call 107; refine (IndexByte_b _ _ _).mono ?_; rintro e w' ⟨rfl, rfl⟩) | (go_at_call 108; refine (isSign_calls _ _).mono ?_; rintro e w' ⟨rfl, rfl⟩))
                  go_quiet (fail)
                  go_wp2_with (first | (go_at_call 105; refine (HasPrefix_b _ _ _).mono ?_; rintro e w' ⟨rfl, rfl⟩) | (go_at_call 106; refine (isName_calls _ _).mono ?_; rintro e w' ⟨rfl, rfl⟩) | (go_at_call 107; refine (IndexByte_b _ _ _).mono ?_; rintro e w' ⟨rfl, rfl⟩) | (go_at_call 108; refine (isSign_calls _ _).mono ?_; rintro e w' ⟨rfl, rfl⟩))
                  exact ⟨rfl, by rw [← Hq.out]; exact ⟨tokEnd_none Hn.out (by rw [Hp.out]), Fin.out _⟩⟩
end Go.Proofs.YtgdnhlckodhhgaaGreatDoor
