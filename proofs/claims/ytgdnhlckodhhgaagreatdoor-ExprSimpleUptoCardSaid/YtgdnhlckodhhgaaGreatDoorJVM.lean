/-
  Plain Lean: the reference's asker: nodes by their numbers; what is asked of a node and a word has a key of its own.
-/
import Derived.Test.YtgdnhlckodhhgaaGreatDoorJVE
import Derived.Test.YtgdnhlckodhhgaaGreatDoorJVK
import Derived.Test.YtgdnhlckodhhgaaGreatDoorJVL
namespace Go.Proofs.YtgdnhlckodhhgaaGreatDoor
set_option linter.unusedVariables false
set_option linter.unusedSimpArgs false
/-- A node of an expression, by its number. -/
inductive Sub : Nat → E → Nat → E → Prop where
  | here (k : Nat) (e : E) : Sub k e k e
  | kid {k : Nat} {e : E} {k' : Nat} {e' : E} (j : Nat) (h : j < e.l.length) (s : Sub (k + 1 + sizes (e.l.take j)) e.l[j] k' e') : Sub k e k' e'
theorem Sub.bounds {k k' : Nat} {e e' : E} (h : Sub k e k' e') : k ≤ k' ∧ k' + e'.size ≤ k + e.size := by
  induction h with
  | here k e => omega
  | @kid k e k' e' j h s ih =>
    have h1 := sizes_take e.l j h
    have h2 := sizes_le e.l (j + 1)
    have h3 := E.size_eq e
    omega
theorem sizes_lt {l : List E} {i j : Nat} (h : i < j) (hj : j < l.length) : sizes (l.take i) + (l[i]'(by omega)).size ≤ sizes (l.take j) := by
  rw [← sizes_take l i (by omega)]
  have e : l.take (i + 1) = (l.take j).take (i + 1) := by rw [List.take_take]; congr 1; omega
  rw [e]
  exact sizes_le _ _
theorem Sub.unique {k k' : Nat} {e e1 : E} (h : Sub k e k' e1) : ∀ {e2 : E}, Sub k e k' e2 → e1 = e2 := by
  induction h with
  | here k e =>
    intro e2 h2
    cases h2 with
    | here => rfl
    | kid j h s => have := s.bounds; omega
  | @kid k e k' e1 j h s ih =>
    intro e2 h2
    have hb := s.bounds
    have hp := size_pos e1
    cases h2 with
    | here => omega
    | kid j2 h' s2 =>
      have hb2 := s2.bounds
      have hp2 := size_pos e2
      rcases Nat.lt_trichotomy j j2 with hlt | rfl | hlt
      · have := sizes_lt hlt h'; omega
      · exact ih s2
      · have := sizes_lt hlt h; omega
theorem Sub.step {k k' : Nat} {e e' : E} (h : Sub k e k' e') : ∀ (j : Nat) (hj : j < e'.l.length), Sub k e (k' + 1 + sizes (e'.l.take j)) e'.l[j] := by
  induction h with
  | here k e => intro j hj; exact .kid j hj (.here _ _)
  | @kid k e k' e' i h s ih => intro j hj; exact .kid i h (ih j hj)
theorem cut_first {A B : Bs} : ∀ {p q : Bs}, (32 : UInt8) ∉ p → (32 : UInt8) ∉ q → p ++ 32 :: A = q ++ 32 :: B → p = q ∧ A = B
  | [], [], _, _, h => by simpa using h
  | [], b :: q, _, hq, h => by
    simp only [List.nil_append, List.cons_append, List.cons.injEq] at h
    exact absurd (by rw [h.1]; simp) hq
  | a :: p, [], hp, _, h => by
    simp only [List.nil_append, List.cons_append, List.cons.injEq] at h
    exact absurd (by rw [h.1]; simp) hp
  | a :: p, b :: q, hp, hq, h => by
    simp only [List.cons_append, List.cons.injEq] at h
    obtain ⟨rfl, h⟩ := h
    have := cut_first (fun h => hp (by simp [h])) (fun h => hq (by simp [h])) h
    exact ⟨by rw [this.1], this.2⟩
theorem rsym_has {x : Bs} (h : rsym x = true) : (32 : UInt8) ∉ x ∧ x ≠ [] := by
  simp only [rsym, Bool.and_eq_true, Bool.not_eq_true', List.all_eq_true] at h
  refine ⟨fun hx => ?_, fun hx => by rw [hx] at h; simp at h⟩
  have := h.1.1 32 hx
  revert this
  decide
theorem jn_inj : ∀ {u v : List Bs}, (∀ x ∈ u, rsym x = true) → (∀ x ∈ v, rsym x = true) → jn u = jn v → u = v
  | [], [], _, _, _ => rfl
  | [], [y], _, hv, h => absurd h.symm (rsym_has (hv y (by simp))).2
  | [], y :: z :: r, _, _, h => by simp [jn] at h
  | [x], [], hu, _, h => absurd h (rsym_has (hu x (by simp))).2
  | x :: z :: r, [], _, _, h => by simp [jn] at h
  | [x], [y], _, _, h => by simpa [jn] using h
  | [x], y :: z :: r, hu, _, h => by
    have := (rsym_has (hu x (by simp))).1
    simp only [jn] at h
    exact absurd (by rw [h]; simp) this
  | x :: z :: r, [y], _, hv, h => by
    have := (rsym_has (hv y (by simp))).1
    simp only [jn] at h
    exact absurd (by rw [← h]; simp) this
  | x :: x2 :: r, y :: y2 :: r', hu, hv, h => by
    simp only [jn] at h
    obtain ⟨rfl, h2⟩ := cut_first (rsym_has (hu x (by simp))).1 (rsym_has (hv y (by simp))).1 h
    rw [jn_inj (fun z hz => hu z (by simp only [List.mem_cons] at hz ⊢; exact .inr hz)) (fun z hz => hv z (by simp only [List.mem_cons] at hz ⊢; exact .inr hz)) h2]
theorem dec_no {k : Nat} (hk : k < 100) : (32 : UInt8) ∉ Lib.decDigits k := by
  by_cases h : k < 10
  · rw [Lib.decDigits_one h]
    intro hx
    simp only [List.mem_singleton] at hx
    have := congrArg UInt8.toNat hx
    simp only [UInt8.toNat_ofNat'] at this
    have e : (32 : UInt8).toNat = 32 := rfl
    omega
  · rw [Lib.decDigits_two h hk]
    intro hx
    simp only [List.mem_cons, List.not_mem_nil, or_false] at hx
    have e : (32 : UInt8).toNat = 32 := rfl
    rcases hx with hx | hx
    all_goals
      have := congrArg UInt8.toNat hx
      simp only [UInt8.toNat_ofNat'] at this
      omega
theorem dec_inj {k m : Nat} (hk : k < 100) (hm : m < 100) (h : Lib.decDigits k = Lib.decDigits m) : k = m := by
  by_cases h1 : k < 10
  · by_cases h2 : m < 10
    · rw [Lib.decDigits_one h1, Lib.decDigits_one h2] at h
      simp only [List.cons.injEq, and_true] at h
      have := congrArg UInt8.toNat h
      simp only [UInt8.toNat_ofNat'] at this
      omega
    · rw [Lib.decDigits_one h1, Lib.decDigits_two h2 hm] at h
      simp at h
  · by_cases h2 : m < 10
    · rw [Lib.decDigits_two h1 hk, Lib.decDigits_one h2] at h
      simp at h
    · rw [Lib.decDigits_two h1 hk, Lib.decDigits_two h2 hm] at h
      simp only [List.cons.injEq, and_true] at h
      have e1 := congrArg UInt8.toNat h.1
      have e2 := congrArg UInt8.toNat h.2
      simp only [UInt8.toNat_ofNat'] at e1 e2
      omega
theorem rkey_inj {k m L : Nat} {u v : List Bs} (hk : k < 100) (hm : m < 100) (hu : OkW L u) (hv : OkW L v) (h : rkey k u = rkey m v) : k = m ∧ u = v := by
  obtain ⟨h1, h2⟩ := cut_first (dec_no hk) (dec_no hm) h
  exact ⟨dec_inj hk hm h1, jn_inj hu.2 hv.2 h2⟩
/-- There is a function of keys that answers. -/
theorem keys_ex (L : Nat) (e : E) (he : e.size ≤ 100) : ∃ V : Bs → Bool, ∀ k' e', Sub 0 e k' e' → ∀ u, OkW L u → V (rkey k' u) = rev e' u := by
  classical
  refine ⟨fun s => if h : ∃ x : Nat × E × List Bs, Sub 0 e x.1 x.2.1 ∧ OkW L x.2.2 ∧ s = rkey x.1 x.2.2 then rev h.choose.2.1 h.choose.2.2 else false, fun k' e' hs u hu => ?_⟩
  have hx : ∃ x : Nat × E × List Bs, Sub 0 e x.1 x.2.1 ∧ OkW L x.2.2 ∧ rkey k' u = rkey x.1 x.2.2 := ⟨(k', e', u), hs, hu, rfl⟩
  simp only [dif_pos hx]
  obtain ⟨h1, h2, h3⟩ := hx.choose_spec
  have b1 := h1.bounds
  have b2 := hs.bounds
  have p1 := size_pos hx.choose.2.1
  have p2 := size_pos e'
  obtain ⟨e1, e2⟩ := rkey_inj (by omega) (by omega) hu h2 h3
  rw [← e2]
  rw [← e1] at h1
  rw [h1.unique hs]
end Go.Proofs.YtgdnhlckodhhgaaGreatDoor

/-
  The reference's asker: what it answers at each node of a right expression.
-/
namespace Go.Proofs.YtgdnhlckodhhgaaGreatDoor
open Go.RowKit
set_option linter.unusedVariables false
set_option linter.unusedSimpArgs false
theorem rfind_all {ga gm gi n cap L k : Nat} {V : Bs → Bool} {e : E} (hL : L ≤ 60) (hf : fits e.op e.s e.l.length = true) (h10 : e.op = 13 ∨ e.op = 15 → L ≤ 10) (hl : e.l.length ≤ 1000000) (hkids : ∀ j, (h : j < e.l.length) → RH ga gm gi n cap V L (k + 1 + sizes (e.l.take j)) e.l[j]) : RF ga gm gi n cap V L k e := by
  simp only [fits, Bool.and_eq_true, decide_eq_true_eq] at hf
  obtain ⟨⟨⟨⟨h0, h15⟩, h1⟩, h2⟩, _⟩ := hf
  have hop : e.op = 0 ∨ e.op = 1 ∨ e.op = 2 ∨ e.op = 3 ∨ e.op = 4 ∨ e.op = 5 ∨ e.op = 6 ∨ e.op = 7 ∨ e.op = 8 ∨ e.op = 9 ∨ e.op = 10 ∨ e.op = 11 ∨ e.op = 12 ∨ e.op = 13 ∨ e.op = 14 ∨ e.op = 15 := by omega
  rcases hop with h | h | h | h | h | h | h | h | h | h | h | h | h | h | h | h <;> rw [h] at h1 h2 <;> simp [kidsR] at h1 h2
  · exact rfind_0 hL h (by rw [h2]; rfl) hl hkids
  · exact rfind_1 hL h (by rw [h2]; rfl) hl hkids
  · exact rfind_2 hL h (by rw [h2]; rfl) hl hkids
  · exact rfind_3 hL h (by rw [h2]; rfl) hl hkids
  · exact rfind_4 hL h trivial hl hkids
  · exact rfind_5 hL h trivial hl hkids
  · exact rfind_6 hL h trivial hl hkids
  · exact rfind_7 hL h (by omega) hl hkids
  · exact rfind_8 hL h (by omega) hl hkids
  · exact rfind_9 hL h (by omega) hl hkids
  · exact rfind_10 hL h (by omega) hl hkids
  · exact rfind_11 hL h (by omega) hl hkids
  · exact rfind_12 hL h (by omega) hl hkids
  · exact rfind_13 (h10 (.inl h)) h (by omega) hl hkids
  · exact rfind_14 hL h (by omega) hl hkids
  · exact rfind_15 (h10 (.inr h)) h (by omega) hl hkids
theorem rh_all {ga gm gi n cap L : Nat} {V : Bs → Bool} (hL : L ≤ 60) (hn : n ≤ 40) (hnc : n ≤ cap) : ∀ (d k : Nat) (e : E), e.nest ≤ d → e.size ≤ 1000000 → e.right = true → (e.has 15 13 = true → L ≤ 10) → (∀ k' e', Sub k e k' e' → ∀ u, OkW L u → V (rkey k' u) = rev e' u) → RH ga gm gi n cap V L k e := by
  intro d
  induction d with
  | zero => intro k e h; have := E.nest_eq e; omega
  | succ d ih =>
    intro k e hne hsz hr hh hV
    have hs := E.size_eq e
    have hn2 := E.nest_eq e
    have hll := length_sizes e.l
    rw [E.right_eq, Bool.and_eq_true] at hr
    rw [E.has_eq] at hh
    refine holds_of_find hL hn hnc (hV k e (.here k e)) (rfind_all hL hr.1 (fun h => hh ?_) (by omega) (fun j hj => ?_))
    · rcases h with h | h <;> simp [h]
    · have h1 := size_mem (List.getElem_mem hj)
      have h2 := nests_mem (List.getElem_mem hj)
      refine ih _ _ (by omega) (by omega) (List.all_eq_true.1 hr.2 _ (List.getElem_mem hj)) (fun h => hh ?_) (fun k' e' hs => hV k' e' (.kid j hj hs))
      rw [Bool.or_eq_true]
      right
      rw [List.any_eq_true]
      exact ⟨_, List.getElem_mem hj, h⟩
end Go.Proofs.YtgdnhlckodhhgaaGreatDoor

/-
  The reference's asker: its items in memory while they are put in: a row of items, each with a row of numbers.
-/
namespace Go.Proofs.YtgdnhlckodhhgaaGreatDoor
open Go.RowKit
set_option linter.unusedVariables false
set_option linter.unusedSimpArgs false
theorem Tryz.infoIt : (Tryz.prog.info? 130).map (fun i => (i.zero, i.size, i.bytes)) = some (some (.agg #[.int .i64 0, .string ⟨#[]⟩, .slice none 0 0]), 3, 48) := by kernel_rfl
theorem Tryz.infoN : (Tryz.prog.info? 3).map (fun i => (i.zero, i.size, i.bytes)) = some (some (.int .i64 0), 1, 8) := by kernel_rfl
/-- An item: what it is, its row of numbers as a value, the numbers. -/
structure It where
  op : Int
  s : Bs
  v : Value
  ks : List Nat
def itCells (X : List It) : List Value := X.flatMap fun t => [.int .i64 t.op, .string (bs t.s), t.v]
def nats (ks : List Nat) : List Value := ks.map fun k => Value.int .i64 (k : Nat)
theorem nats_len (ks : List Nat) : (nats ks).length = ks.length := by simp [nats]
theorem itCells_len (X : List It) : (itCells X).length = X.length * 3 := by
  induction X with
  | nil => rfl
  | cons t X ih => simp only [itCells, List.flatMap_cons, List.length_append, List.length_cons, List.length_nil] at *; omega
theorem itCells_app (X Y : List It) : itCells (X ++ Y) = itCells X ++ itCells Y := by simp [itCells]
theorem itCells_cons (t : It) (X : List It) : itCells (t :: X) = .int .i64 t.op :: .string (bs t.s) :: t.v :: itCells X := by simp [itCells]
theorem itCells_at : ∀ (X : List It) (i : Nat) (t : It), X[i]? = some t → (itCells X)[i * 3]? = some (.int .i64 t.op) ∧ (itCells X)[i * 3 + 1]? = some (.string (bs t.s)) ∧ (itCells X)[i * 3 + 2]? = some t.v
  | [], i, t, h => by simp at h
  | x :: X, 0, t, h => by
    simp only [List.getElem?_cons_zero, Option.some.injEq] at h
    subst h
    rw [itCells_cons]; simp
  | x :: X, i + 1, t, h => by
    have h := itCells_at X i t (by simpa using h)
    rw [itCells_cons, show (i + 1) * 3 = i * 3 + 1 + 1 + 1 by omega, show i * 3 + 1 + 1 + 1 + 1 = (i * 3 + 1) + 1 + 1 + 1 by omega, show i * 3 + 1 + 1 + 1 + 2 = (i * 3 + 2) + 1 + 1 + 1 by omega]
    simpa using h
theorem itCells_set : ∀ (X : List It) (i : Nat) (t t' : It), X[i]? = some t → t'.op = t.op → t'.s = t.s → (itCells X).set (i * 3 + 2) t'.v = itCells (X.set i t')
  | [], i, t, t', h, _, _ => by simp at h
  | x :: X, 0, t, t', h, h1, h2 => by
    simp only [List.getElem?_cons_zero, Option.some.injEq] at h
    subst h
    rw [List.set_cons_zero, itCells_cons, itCells_cons, h1, h2]; rfl
  | x :: X, i + 1, t, t', h, h1, h2 => by
    have h := itCells_set X i t t' (by simpa using h) h1 h2
    rw [List.set_cons_succ, itCells_cons, itCells_cons, ← h, show (i + 1) * 3 + 2 = (i * 3 + 2) + 1 + 1 + 1 by omega]
    simp
/-! ### Rows of one's own -/
section
variable {w w1 : World} {base size n g cap : Nat} {e : TypeId} {v : Value} {xs : List Value}
theorem ownb_of (h : w.ownsRow base e size v n xs) (hb : ∀ g, v.ownBlock = some g → w1.heap[g]? = w.heap[g]?) : w1.ownsRow base e size v n xs := by
  obtain ⟨h1, h2⟩ := h
  refine ⟨h1, ?_⟩
  rcases h2 with h2 | ⟨g, cap, cur, h2, h0, h3, r⟩
  · exact .inl h2
  · exact .inr ⟨g, cap, cur, h2, h0, (hb g (by rw [h2]; rfl)).trans h3, r⟩
theorem ownb_shape (h : w.ownsRow base e size v n xs) : ∃ A cap, v = .slice A n cap ∧ n ≤ cap ∧ (∀ a, A = some a → ∃ g, a = ⟨g, 0, none⟩) := by
  obtain ⟨h1, h2⟩ := h
  rcases h2 with ⟨rfl, rfl⟩ | ⟨g, cap, cur, rfl, h0, h3, h4, r⟩
  · exact ⟨none, 0, rfl, Nat.le_refl _, fun a h => by cases h⟩
  · exact ⟨some ⟨g, 0, none⟩, cap, rfl, h4, fun a h => ⟨g, by injection h with h; exact h.symm⟩⟩
theorem ownb_block (h : w.ownsRow base e size (.slice (some ⟨g, 0, none⟩) n cap) n xs) : ∃ cur spare, w.heap[g]? = some (.cells cur e (0, 0)) ∧ cur.toList = xs ++ spare ∧ n ≤ cap ∧ base ≤ g := by
  obtain ⟨h1, h2⟩ := h
  rcases h2 with ⟨h2, _⟩ | ⟨g', cap', cur, h2, h0, h3, h4, h5, h6, h7⟩
  · cases h2
  · injection h2 with h8 h9 h10
    injection h8 with h8
    injection h8 with h8
    subst h8; subst h10
    exact ⟨cur, cur.toList.drop (n * size), h3, by rw [← h7, List.take_append_drop], h4, h0⟩
theorem ownb_cell (h : w.ownsRow base e size (.slice (some ⟨g, 0, none⟩) n cap) n xs) {j : Nat} {u : Value} (hj : xs[j]? = some u) : w.cell? ⟨g, j, none⟩ = some u := by
  obtain ⟨cur, spare, h1, h2, _⟩ := ownb_block h
  simp only [World.cell?, h1, Option.isSome_none, Bool.false_eq_true, if_false]
  rw [← Array.getElem?_toList, h2, List.getElem?_append_left (List.getElem?_eq_some_iff.1 hj).1]
  exact hj
theorem ownb_free (h : w.ownsRow base e size (.slice (some ⟨g, 0, none⟩) n cap) n xs) (j : Nat) : w.frozen? ⟨g, j, none⟩ = false := by
  obtain ⟨cur, spare, h1, _⟩ := ownb_block h
  simp [World.frozen?, h1]
theorem ownb_set (h : w.ownsRow base e size (.slice (some ⟨g, 0, none⟩) n cap) n xs) (k : Nat) (u : Value) : (w.setCell ⟨g, k, none⟩ u).ownsRow base e size (.slice (some ⟨g, 0, none⟩) n cap) n (xs.set k u) := by
  obtain ⟨h1, h2⟩ := h
  refine ⟨by simpa using h1, ?_⟩
  rcases h2 with ⟨h2, _⟩ | ⟨g', cap', cur, h2, h0, h3, h4, h5, h6, h7⟩
  · cases h2
  · injection h2 with h8 h9 h10
    injection h8 with h8
    injection h8 with h8
    subst h8; subst h10
    refine .inr ⟨g, cap, cur.setIfInBounds k u, rfl, h0, ?_, h4, h5, by simpa using h6, ?_⟩
    · simp only [World.setCell, Array.getElem?_modify, h3]
      simp
    · rw [Array.toList_setIfInBounds, List.take_set, h7]
end
theorem set_far {w : World} {p : Addr} {b : Nat} (h : b ≠ p.block) (v : Value) : (w.setCell p v).heap[b]? = w.heap[b]? := Below.heap_setCell _ _ _ _ h
theorem alloc_far {w : World} {b : Nat} (h : b < w.heap.size) (o : Obj) : (w.alloc o).heap[b]? = w.heap[b]? := Below.heap_alloc _ _ _ h
/-! ### The items -/
structure Its (w : World) (base : Nat) (vi : Value) (X : List It) : Prop where
  own : w.ownsRow base 130 3 vi X.length (itCells X)
  rows : ∀ (i : Nat) (t : It), X[i]? = some t → w.ownsRow base 3 1 t.v t.ks.length (nats t.ks)
  ap : ∀ (i : Nat) (t : It), X[i]? = some t → ∀ g, t.v.ownBlock = some g → vi.ownBlock ≠ some g
  apj : ∀ (i j : Nat) (t t' : It), X[i]? = some t → X[j]? = some t' → i ≠ j → ∀ g, t.v.ownBlock = some g → t'.v.ownBlock ≠ some g
section
variable {w w1 : World} {base : Nat} {vi : Value} {X : List It}
theorem Its.keep (h : Its w base vi X) (h1 : ∀ g, vi.ownBlock = some g → w1.heap[g]? = w.heap[g]?) (h2 : ∀ (i : Nat) (t : It), X[i]? = some t → ∀ g, t.v.ownBlock = some g → w1.heap[g]? = w.heap[g]?) : Its w1 base vi X :=
  ⟨ownb_of h.own h1, fun i t ht => ownb_of (h.rows i t ht) (h2 i t ht), h.ap, h.apj⟩
theorem Its.alloc (h : Its w base vi X) (o : Obj) : Its (w.alloc o) base vi X :=
  h.keep (fun g hg => alloc_far (ownb_lt h.own hg) o) (fun i t ht g hg => alloc_far (ownb_lt (h.rows i t ht) hg) o)
theorem Its.drew (h : Its w base vi X) : Its w.drew base vi X := h.keep (fun _ _ => rfl) (fun _ _ _ _ _ => rfl)
/-- A store below. -/
theorem Its.far (h : Its w base vi X) {p : Addr} (hp : p.block < base) (v : Value) : Its (w.setCell p v) base vi X :=
  h.keep (fun g hg => set_far (by have := ownb_base h.own hg; omega) v) (fun i t ht g hg => set_far (by have := ownb_base (h.rows i t ht) hg; omega) v)
/-- One item more. -/
theorem Its.push {op : Int} {s : Bs} {o : Obj} {g cap : Nat} (h : Its w base vi X) (ho : w1.ownsRow base 130 3 (.slice (some ⟨g, 0, none⟩) (X.length + 1) cap) (X.length + 1) (itCells X ++ [.int .i64 op, .string (bs s), .slice none 0 0]))
    (hg : (w.alloc o).grownBy w1 vi.ownBlock) (hat : vi.ownBlock = some g ∨ g = w.heap.size + 1) : Its w1 base (.slice (some ⟨g, 0, none⟩) (X.length + 1) cap) (X ++ [⟨op, s, .slice none 0 0, []⟩]) := by
  have hold : ∀ (i : Nat) (t : It), (X ++ [⟨op, s, .slice none 0 0, []⟩])[i]? = some t → (X[i]? = some t) ∨ (i = X.length ∧ t = ⟨op, s, .slice none 0 0, []⟩) := by
    intro i t ht
    rcases Nat.lt_or_ge i X.length with hi | hi
    · rw [List.getElem?_append_left hi] at ht; exact .inl ht
    · rw [List.getElem?_append_right hi] at ht
      cases hz : i - X.length with
      | zero => rw [hz] at ht; simp at ht; exact .inr ⟨by omega, ht.symm⟩
      | succ z => rw [hz] at ht; simp at ht
  refine ⟨?_, ?_, ?_, ?_⟩
  · rw [List.length_append, List.length_singleton, itCells_app]; exact ho
  · intro i t ht
    rcases hold i t ht with ht | ⟨_, rfl⟩
    · refine ownb_of (h.rows i t ht) (fun x hx => ?_)
      have hlt := ownb_lt (h.rows i t ht) hx
      exact (hg.block x (by simp; omega) (fun e => h.ap i t ht x hx e.symm)).trans (alloc_far hlt o)
    · exact ⟨rfl, .inl ⟨rfl, rfl⟩⟩
  · intro i t ht x hx hy
    simp only [Value.ownBlock, Option.some.injEq] at hy
    subst hy
    rcases hold i t ht with ht | ⟨_, rfl⟩
    · rcases hat with hat | hat
      · exact h.ap i t ht _ hx hat
      · have := ownb_lt (h.rows i t ht) hx; omega
    · cases hx
  · intro i j t t' ht ht' hij x hx hx'
    rcases hold i t ht with ht | ⟨_, rfl⟩
    · rcases hold j t' ht' with ht' | ⟨_, rfl⟩
      · exact h.apj i j t t' ht ht' hij x hx hx'
      · cases hx'
    · cases hx
/-- One number more in an item's row. -/
theorem Its.put {o : Obj} {g cap gi ci k m : Nat} {t : It} (h : Its w base (.slice (some ⟨gi, 0, none⟩) X.length ci) X) (hk : X[k]? = some t) (ho : w1.ownsRow base 3 1 (.slice (some ⟨g, 0, none⟩) (t.ks.length + 1) cap) (t.ks.length + 1) (nats t.ks ++ [.int .i64 (m : Nat)]))
    (hg : (w.alloc o).grownBy w1 t.v.ownBlock) (hat : t.v.ownBlock = some g ∨ g = w.heap.size + 1) :
    Its (w1.setCell ⟨gi, k * 3 + 2, none⟩ (.slice (some ⟨g, 0, none⟩) (t.ks.length + 1) cap)) base (.slice (some ⟨gi, 0, none⟩) X.length ci) (X.set k ⟨t.op, t.s, .slice (some ⟨g, 0, none⟩) (t.ks.length + 1) cap, t.ks ++ [m]⟩) := by
  have hkl : k < X.length := (List.getElem?_eq_some_iff.1 hk).1
  have hgi : gi < w.heap.size := ownb_lt h.own rfl
  have hne : gi ≠ g := by
    intro e
    subst e
    rcases hat with hat | hat
    · exact h.ap k t hk _ hat rfl
    · omega
  have hown1 : w1.ownsRow base 130 3 (.slice (some ⟨gi, 0, none⟩) X.length ci) X.length (itCells X) := ownb_of h.own (fun x hx => by
    have hlt := ownb_lt h.own hx
    refine (hg.block x (by simp; omega) (fun e => h.ap k t hk x e.symm hx)).trans (alloc_far hlt o))
  have hrow1 : ∀ (i : Nat) (t' : It), X[i]? = some t' → i ≠ k → ∀ x, t'.v.ownBlock = some x → w1.heap[x]? = w.heap[x]? := fun i t' ht' hik x hx => by
    have hlt := ownb_lt (h.rows i t' ht') hx
    exact (hg.block x (by simp; omega) (fun e => h.apj i k t' t ht' hk hik x hx e.symm)).trans (alloc_far hlt o)
  have hset : ∀ (i : Nat) (t' : It), (X.set k ⟨t.op, t.s, .slice (some ⟨g, 0, none⟩) (t.ks.length + 1) cap, t.ks ++ [m]⟩)[i]? = some t' → (i ≠ k ∧ X[i]? = some t') ∨ (i = k ∧ t' = ⟨t.op, t.s, .slice (some ⟨g, 0, none⟩) (t.ks.length + 1) cap, t.ks ++ [m]⟩) := fun i t' ht' => by
    by_cases hik : i = k
    · subst hik
      rw [List.getElem?_set_self hkl] at ht'
      exact .inr ⟨rfl, by simpa using ht'.symm⟩
    · rw [List.getElem?_set_ne (Ne.symm hik)] at ht'
      exact .inl ⟨hik, ht'⟩
  have hnew : ∀ (i : Nat) (t' : It), X[i]? = some t' → i ≠ k → t'.v.ownBlock ≠ some g := fun i t' ht' hik hx => by
    rcases hat with hat | hat
    · exact h.apj i k t' t ht' hk hik g hx hat
    · have := ownb_lt (h.rows i t' ht') hx; omega
  refine ⟨?_, ?_, ?_, ?_⟩
  · have := ownb_set hown1 (k * 3 + 2) (.slice (some ⟨g, 0, none⟩) (t.ks.length + 1) cap)
    rw [itCells_set X k t ⟨t.op, t.s, .slice (some ⟨g, 0, none⟩) (t.ks.length + 1) cap, t.ks ++ [m]⟩ hk rfl rfl] at this
    rw [List.length_set]
    exact this
  · intro i t' ht'
    rcases hset i t' ht' with ⟨hik, ht'⟩ | ⟨rfl, rfl⟩
    · refine ownb_of (h.rows i t' ht') (fun x hx => ?_)
      rw [set_far (fun e => h.ap i t' ht' x hx (by rw [e]; rfl))]
      exact hrow1 i t' ht' hik x hx
    · have e1 : nats (t.ks ++ [m]) = nats t.ks ++ [.int .i64 (m : Nat)] := by simp [nats]
      simp only [List.length_append, List.length_singleton]
      rw [e1]
      refine ownb_of ho (fun x hx => set_far ?_ _)
      simp only [Value.ownBlock, Option.some.injEq] at hx
      subst hx
      exact Ne.symm hne
  · intro i t' ht' x hx hy
    simp only [Value.ownBlock, Option.some.injEq] at hy
    subst hy
    rcases hset i t' ht' with ⟨hik, ht'⟩ | ⟨rfl, rfl⟩
    · exact h.ap i t' ht' _ hx rfl
    · simp only [Value.ownBlock, Option.some.injEq] at hx
      exact hne hx.symm
  · intro i j t1 t2 ht1 ht2 hij x hx hx'
    rcases hset i t1 ht1 with ⟨hik, h1'⟩ | ⟨ei, et⟩
    · rcases hset j t2 ht2 with ⟨hjk, h2'⟩ | ⟨ej, et⟩
      · exact h.apj i j t1 t2 h1' h2' hij x hx hx'
      · rw [et] at hx'
        simp only [Value.ownBlock, Option.some.injEq] at hx'
        rw [← hx'] at hx
        exact hnew i t1 h1' hik hx
    · rcases hset j t2 ht2 with ⟨hjk, h2'⟩ | ⟨ej, et'⟩
      · rw [et] at hx
        simp only [Value.ownBlock, Option.some.injEq] at hx
        rw [← hx] at hx'
        exact hnew j t2 h2' hjk hx'
      · exact absurd (ei.trans ej.symm) hij
end
/-! ### The tree among the items -/
def nums (k : Nat) (e : E) (j : Nat) : List Nat := (List.range j).map fun j' => k + 1 + sizes (e.l.take j')
theorem nums_succ (k : Nat) (e : E) (j : Nat) : nums k e (j + 1) = nums k e j ++ [k + 1 + sizes (e.l.take j)] := by simp [nums, List.range_succ]
theorem nums_len (k : Nat) (e : E) (j : Nat) : (nums k e j).length = j := by simp [nums]
inductive PT (X : List It) : Nat → E → Prop where
  | mk (k : Nat) (e : E) (t : It) (h : X[k]? = some t) (ho : t.op = e.op) (hs : t.s = e.s) (hk : t.ks = nums k e e.l.length) (kids : ∀ j, (h : j < e.l.length) → PT X (k + 1 + sizes (e.l.take j)) e.l[j]) : PT X k e
theorem PT.turn {X X' : List It} {k : Nat} {e : E} (h : PT X k e) (hx : ∀ i, k ≤ i → i < k + e.size → X'[i]? = X[i]?) : PT X' k e := by
  induction h with
  | mk k e t h ho hs hk kids ih =>
    have h1 := E.size_eq e
    refine .mk k e t ((hx k (Nat.le_refl _) (by omega)).trans h) ho hs hk (fun j hj => ih j hj (fun i hi1 hi2 => hx i (by omega) ?_))
    have h2 := sizes_take e.l j hj
    have h3 := sizes_le e.l (j + 1)
    omega
theorem PT.lt {X : List It} {k : Nat} {e : E} (h : PT X k e) : k < X.length := by
  cases h with
  | mk k e t h ho hs hk kids => exact (List.getElem?_eq_some_iff.1 h).1
/-- What add leaves of the world. -/
structure Ka (ga : Nat) (vi vi' : Value) (w w' : World) : Prop where
  os : w'.os = w.os
  tape : w'.tape = w.tape
  output : w'.output = w.output
  size : w.heap.size ≤ w'.heap.size
  block : ∀ b, b < w.heap.size → b ≠ ga → vi.ownBlock ≠ some b → w'.heap[b]? = w.heap[b]?
  nw : ∀ g, vi'.ownBlock = some g → vi.ownBlock = some g ∨ w.heap.size ≤ g
section
variable {ga : Nat} {vi vi1 vi2 : Value} {w w1 w2 : World}
theorem Ka.refl (ga : Nat) (vi : Value) (w : World) : Ka ga vi vi w w := ⟨rfl, rfl, rfl, Nat.le_refl _, fun _ _ _ _ => rfl, fun g hg => .inl hg⟩
theorem Ka.trans (h : Ka ga vi vi1 w w1) (k : Ka ga vi1 vi2 w1 w2) : Ka ga vi vi2 w w2 := by
  have hs := h.size
  refine ⟨k.os.trans h.os, k.tape.trans h.tape, k.output.trans h.output, Nat.le_trans h.size k.size, fun b hb h1 h2 => ?_, fun g hg => ?_⟩
  · refine (k.block b (by omega) h1 (fun e => ?_)).trans (h.block b hb h1 h2)
    rcases h.nw b e with e | e
    · exact h2 e
    · omega
  · rcases k.nw g hg with e | e
    · exact h.nw g e
    · exact .inr (by omega)
theorem Ka.alloc (h : Ka ga vi vi1 w w1) (o : Obj) : Ka ga vi vi1 w (w1.alloc o) :=
  ⟨h.os, h.tape, h.output, by have := h.size; simp; omega, fun b hb h1 h2 => (alloc_far (by have := h.size; omega) o).trans (h.block b hb h1 h2), h.nw⟩
theorem Ka.drew (h : Ka ga vi vi1 w w1) : Ka ga vi vi1 w w1.drew := ⟨h.os, h.tape, h.output, h.size, h.block, h.nw⟩
/-- A store into the asker, or into a block that is new. -/
theorem Ka.store (h : Ka ga vi vi1 w w1) {p : Addr} (hp : p.block = ga ∨ vi1.ownBlock = some p.block ∨ w.heap.size ≤ p.block) (v : Value) : Ka ga vi vi1 w (w1.setCell p v) := by
  refine ⟨h.os, h.tape, h.output, by have := h.size; simpa [World.setCell] using this, fun b hb h1 h2 => (set_far (fun e => ?_) v).trans (h.block b hb h1 h2), h.nw⟩
  subst e
  rcases hp with e | e | e
  · exact h1 e
  · rcases h.nw _ e with e | e
    · exact h2 e
    · omega
  · omega
/-- A row of numbers that is new grows. -/
theorem Ka.row (h : Ka ga vi vi1 w w1) {row : Option Nat} (k : w1.grownBy w2 row) (hr : ∀ x, row = some x → w.heap.size ≤ x) : Ka ga vi vi1 w w2 := by
  have hs := h.size
  exact ⟨k.os.trans h.os, k.tape.trans h.tape, k.output.trans h.output, Nat.le_trans h.size k.size, fun b hb h1 h2 => (k.block b (by omega) (fun e => by have := hr b e.symm; omega)).trans (h.block b hb h1 h2), h.nw⟩
/-- The items grow. -/
theorem Ka.items {g n cap : Nat} (h : Ka ga vi vi1 w w1) (k : w1.grownBy w2 vi1.ownBlock) (hat : vi1.ownBlock = some g ∨ w.heap.size ≤ g) : Ka ga vi (.slice (some ⟨g, 0, none⟩) n cap) w w2 := by
  have hs := h.size
  refine ⟨k.os.trans h.os, k.tape.trans h.tape, k.output.trans h.output, Nat.le_trans h.size k.size, fun b hb h1 h2 => (k.block b (by omega) (fun e => ?_)).trans (h.block b hb h1 h2), fun x hx => ?_⟩
  · rcases h.nw b e.symm with e | e
    · exact h2 e
    · omega
  · simp only [Value.ownBlock, Option.some.injEq] at hx
    subst hx
    rcases hat with hat | hat
    · exact h.nw _ hat
    · exact .inr hat
end
end Go.Proofs.YtgdnhlckodhhgaaGreatDoor
