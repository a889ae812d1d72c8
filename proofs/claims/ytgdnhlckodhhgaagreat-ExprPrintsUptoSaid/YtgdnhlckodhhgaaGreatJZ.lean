/-
  Plain: the symbols of an expression, as they come; sorted, each once.
-/
import Derived.Test.YtgdnhlckodhhgaaGreatJQ
import Derived.Sort.KeysCollected
import Derived.Test.YtgdnhlckodhhgaaGreatJV
import Derived.Test.YtgdnhlckodhhgaaGreatJC
import Derived.Test.YtgdnhlckodhhgaaGreatJK
import Derived.Test.YtgdnhlckodhhgaaGreatJW1
import Derived.Sort.OwnSorted
import Derived.Test.YtgdnhlckodhhgaaGreatJY
namespace Go.Proofs.YtgdnhlckodhhgaaGreat
set_option linter.unusedVariables false
set_option linter.unusedSimpArgs false
mutual
def E.syms : E → List Bs | .mk op s l => (if op = 0 then [s] else []) ++ symss l
def symss : List E → List Bs | [] => [] | e :: l => e.syms ++ symss l
end
theorem E.syms_eq (e : E) : e.syms = (if e.op = 0 then [e.s] else []) ++ symss e.l := by cases e; rw [E.syms]; rfl
theorem symss_append (l m : List E) : symss (l ++ m) = symss l ++ symss m := by
  induction l with
  | nil => rfl
  | cons a l ih => simp [symss, ih]
theorem symss_len (l : List E) (n : Nat) (h : ∀ x, x ∈ l → x.syms.length ≤ x.size) : (symss l).length ≤ sizes l := by
  induction l with
  | nil => simp [symss]
  | cons a l ih =>
    have h1 := h a (by simp)
    have h2 := ih (fun x hx => h x (by simp [hx]))
    simp only [symss, sizes, List.length_append]
    omega
theorem syms_len : ∀ (n : Nat) (e : E), e.size ≤ n → e.syms.length ≤ e.size := by
  intro n
  induction n with
  | zero => intro e he; have := size_pos e; omega
  | succ n ih =>
    intro e he
    have h1 := E.size_eq e
    have h2 := symss_len e.l 0 (fun x hx => ih x (by have := size_mem hx; omega))
    rw [E.syms_eq]
    split <;> simp <;> omega
/-- Each of its neighbours once. -/
def ddF (p : Bs) : List Bs → List Bs
  | [] => []
  | b :: l => if b = p then ddF b l else b :: ddF b l
def dd : List Bs → List Bs
  | [] => []
  | a :: l => a :: ddF a l
theorem ddF_snoc (l : List Bs) : ∀ (p x : Bs), ddF p (l ++ [x]) = ddF p l ++ (if l.getLastD p = x then [] else [x]) := by
  induction l with
  | nil =>
    intro p x
    show (if x = p then [] else [x]) = [] ++ (if p = x then [] else [x])
    by_cases h : x = p
    · rw [if_pos h, if_pos h.symm]; rfl
    · rw [if_neg h, if_neg (fun (e : p = x) => h e.symm)]; rfl
  | cons a l ih =>
    intro p x
    simp only [List.cons_append, ddF]
    have e : (a :: l).getLastD p = l.getLastD a := by cases l <;> rfl
    rw [e, ih a x]
    split <;> simp
theorem dd_snoc (l : List Bs) (x : Bs) (h : l ≠ []) : dd (l ++ [x]) = dd l ++ (if l.getLastD [] = x then [] else [x]) := by
  cases l with
  | nil => exact absurd rfl h
  | cons a l =>
    simp only [List.cons_append, dd]
    have e : (a :: l).getLastD [] = l.getLastD a := by cases l <;> rfl
    rw [e, ddF_snoc]
theorem le_t {a b c : Bs} (h1 : a ≤ b) (h2 : b ≤ c) : a ≤ c := List.le_trans h1 h2
theorem le_a {a b : Bs} (h1 : a ≤ b) (h2 : b ≤ a) : a = b := List.le_antisymm h1 h2
theorem ddF_props (l : List Bs) : ∀ p, (∀ x, x ∈ l → p ≤ x) → l.Pairwise (· ≤ ·) → (∀ x, x ∈ ddF p l → p ≤ x ∧ p ≠ x) ∧ (ddF p l).Pairwise (fun a b => a ≤ b ∧ a ≠ b) ∧ ∀ x, x ∈ p :: ddF p l ↔ x ∈ p :: l := by
  induction l with
  | nil => intro p _ _; simp [ddF]
  | cons b l ih =>
    intro p h1 h2
    have hb := h1 b (by simp)
    rw [List.pairwise_cons] at h2
    obtain ⟨i1, i2, i3⟩ := ih b h2.1 h2.2
    simp only [ddF]
    by_cases hbp : b = p
    · subst hbp
      rw [if_pos rfl]
      exact ⟨i1, i2, fun x => by rw [i3]; simp⟩
    · rw [if_neg hbp]
      have key : ∀ x, x ∈ b :: ddF b l → p ≤ x ∧ p ≠ x := fun x hx => by
        rcases List.mem_cons.1 hx with rfl | hx
        · exact ⟨hb, fun e => hbp e.symm⟩
        · have h3 := i1 x hx
          exact ⟨le_t hb h3.1, fun e => by
            subst e
            exact hbp (le_a h3.1 hb)⟩
      refine ⟨key, ?_, fun x => ?_⟩
      · rw [List.pairwise_cons]
        exact ⟨fun x hx => ⟨(i1 x hx).1, (i1 x hx).2⟩, i2⟩
      · rw [List.mem_cons, i3, List.mem_cons (b := p) (l := b :: l)]
theorem dd_props (l : List Bs) (h : l.Pairwise (· ≤ ·)) : (dd l).Pairwise (fun a b => a ≤ b ∧ a ≠ b) ∧ ∀ x, x ∈ dd l ↔ x ∈ l := by
  cases l with
  | nil => simp [dd]
  | cons a l =>
    rw [List.pairwise_cons] at h
    obtain ⟨i1, i2, i3⟩ := ddF_props l a h.1 h.2
    refine ⟨?_, i3⟩
    simp only [dd, List.pairwise_cons]
    exact ⟨i1, i2⟩
theorem leB_trans : ∀ a b c : List UInt8, leB a b = true → leB b c = true → leB a c = true := fun a b c h1 h2 => by simp only [leB, decide_eq_true_eq] at *; exact List.le_trans h1 h2
theorem leB_total : ∀ a b : List UInt8, (leB a b || leB b a) = true := fun a b => by simp only [leB, Bool.or_eq_true, decide_eq_true_eq]; exact List.le_total a b
theorem sort_pair (l : List Bs) : (l.mergeSort leB).Pairwise (· ≤ ·) := (List.pairwise_mergeSort leB_trans leB_total l).imp (fun h => by simpa [leB] using h)
/-- What is collected, each once, and sorted, is what is sorted, each once. -/
theorem sorted_same {keys l : List Bs} (hn : keys.Nodup) (hm : ∀ s, s ∈ keys ↔ s ∈ l) : keys.mergeSort leB = dd (l.mergeSort leB) := by
  obtain ⟨h1, h2⟩ := dd_props _ (sort_pair l)
  have hp1 := List.mergeSort_perm keys leB
  have hnd : (dd (l.mergeSort leB)).Nodup := h1.imp (fun h => h.2)
  have hperm : (keys.mergeSort leB).Perm (dd (l.mergeSort leB)) := by
    refine (List.perm_ext_iff_of_nodup (hp1.nodup_iff.2 hn) hnd).2 (fun x => ?_)
    rw [hp1.mem_iff, hm, h2, (List.mergeSort_perm l leB).mem_iff]
  exact hperm.eq_of_pairwise (le := (· ≤ ·)) (fun a b _ _ h3 h4 => le_a h3 h4) (sort_pair keys) (h1.imp (fun h => h.1))
theorem dd_len (l : List Bs) : (dd l).length ≤ l.length := by
  have : ∀ (l : List Bs) p, (ddF p l).length ≤ l.length := by
    intro l
    induction l with
    | nil => intro p; simp [ddF]
    | cons a l ih => intro p; simp only [ddF]; have := ih a; split <;> simp <;> omega
  cases l with
  | nil => simp [dd]
  | cons a l => simp only [dd, List.length_cons]; have := this l a; omega
end Go.Proofs.YtgdnhlckodhhgaaGreat

/-
  The reference's list of an expression's symbols, as they come.
-/
namespace Go.Proofs.YtgdnhlckodhhgaaGreat
open Go.RowKit
set_option linter.unusedVariables false
set_option linter.unusedSimpArgs false
section
variable {w w1 : World} {base base' size n : Nat} {e : TypeId} {v : Value} {xs : List Value}
theorem ownb_alloc (h : w.ownsRow base e size v n xs) (o : Obj) : (w.alloc o).ownsRow base e size v n xs := by
  obtain ⟨h1, h2⟩ := h
  refine ⟨h1, ?_⟩
  rcases h2 with h2 | ⟨g, cap, cur, h2, h0, h3, r⟩
  · exact .inl h2
  · exact .inr ⟨g, cap, cur, h2, h0, (Below.heap_alloc _ _ _ (Array.getElem?_eq_some_iff.1 h3).1).trans h3, r⟩
theorem ownb_keep (h : w.ownsRow base e size v n xs) (k : Kp [] w w1) : w1.ownsRow base e size v n xs := by
  obtain ⟨h1, h2⟩ := h
  refine ⟨h1, ?_⟩
  rcases h2 with h2 | ⟨g, cap, cur, h2, h0, h3, r⟩
  · exact .inl h2
  · exact .inr ⟨g, cap, cur, h2, h0, (k.block g (Array.getElem?_eq_some_iff.1 h3).1 (by simp)).trans h3, r⟩
theorem ownb_mono (h : w.ownsRow base e size v n xs) (hb : base' ≤ base) : w.ownsRow base' e size v n xs := by
  obtain ⟨h1, h2⟩ := h
  refine ⟨h1, ?_⟩
  rcases h2 with h2 | ⟨g, cap, cur, h2, h0, r⟩
  · exact .inl h2
  · exact .inr ⟨g, cap, cur, h2, by omega, r⟩
theorem ownb_base (h : w.ownsRow base e size v n xs) {x : Nat} (hx : v.ownBlock = some x) : base ≤ x := by
  obtain ⟨h1, h2⟩ := h
  rcases h2 with ⟨rfl, _⟩ | ⟨g, cap, cur, rfl, h0, r⟩
  · cases hx
  · simp only [Value.ownBlock, Option.some.injEq] at hx
    omega
/-- A row of at least one element lies somewhere. -/
theorem ownb_form (h : w.ownsRow base e 1 v n xs) (hn : 0 < n) : ∃ g cap, v = .slice (some ⟨g, 0, none⟩) n cap ∧ n ≤ cap ∧ base ≤ g ∧ g < w.heap.size ∧ ∀ j u, xs[j]? = some u → w.cell? ⟨g, j, none⟩ = some u := by
  obtain ⟨h1, h2⟩ := h
  rcases h2 with ⟨rfl, h2⟩ | ⟨g, cap, cur, rfl, h0, h3, r⟩
  · subst h2; simp at h1; omega
  · have hsl : Sl w (fun _ => none) e 1 g n cap xs := ⟨⟨h1, .inr ⟨g, cap, cur, rfl, Nat.zero_le _, h3, r⟩⟩, rfl⟩
    obtain ⟨_, _, _, hc, _⟩ := hsl.cells
    exact ⟨g, cap, rfl, hc, h0, hsl.lt, fun j u hu => hsl.cell hu⟩
end
/-- Nothing is appended. -/
theorem run_app_nil {P : Program} {w : World} {base : Nat} {t ty e : TypeId} {i : TypeInfo} {size n : Nat} {v : Value} {xs : List Value} (ht : P.underlying t = some (.slice e)) (hi : P.info? e = some i) (h : w.ownsRow base e size v n xs) :
    (Builtin.append_ #[t, t] ty #[v, .slice none 0 0]).run P w = .ok v w := by
  rcases h.2 with ⟨rfl, rfl⟩ | ⟨g, cap, cur, rfl, _, _, hc, _⟩
  · simp [Builtin.append_, run_underlying ht, sizeOf, typeInfo, hi, Builtin.lenOf, Builtin.firstCells]
  · simp [Builtin.append_, run_underlying ht, sizeOf, typeInfo, hi, Builtin.lenOf, Builtin.firstCells, hc, storeCells]
theorem wpList_app_nil {P : Program} (w : World) {ops : Array Oper} {rest : List Oper} {o : Oper} {a : Act} {Q : Exit → Act → World → Prop} (hgd : o.guard = none) (s x : Operand) (t : TypeId)
    (ho : o.op = .call { callee := .builtin .append, args := #[s, x], argTypes := #[t, t] }) (base : Nat) (e : TypeId) (i : TypeInfo) (size n : Nat) (ht : P.underlying t = some (.slice e)) (hi : P.info? e = some i)
    (v : Value) (xs : List Value) (hs : a.eval s = v) (hown : w.ownsRow base e size v n xs) (hx : a.eval x = .slice none 0 0) (h : wpList P ops Q rest (a.put o.dst v) w) : wpList P ops Q (o :: rest) a w :=
  wpList_plain hgd fun _ hK => by
    have hrun := run_app_nil (ty := o.type) ht hi hown
    unfold Oper.wp execOp
    simp only [ho, resolve, invoke, builtin, Sem.run_bind, Sem.run_pure, Result.andThen_ok, List.map_toArray, List.map_cons, List.map_nil, hs, hx, hrun]
    exact hK _ _ h
theorem add_row (g j : Nat) : (⟨g, 0, none⟩ : Addr).add j = ⟨g, j, none⟩ := by unfold Addr.add; split <;> simp_all
/-- How the list ends. -/
def NmEnd (w : World) (ss : List Bs) (en : Ending) (w' : World) : Prop := ∃ v, en = .returned v ∧ w'.ownsRow w.heap.size 9 1 v ss.length (strs ss) ∧ (ss = [] → v = .slice none 0 0) ∧ Kp [] w w'
theorem strs_app (a b : List Bs) : strs (a ++ b) = strs a ++ strs b := by simp [strs]
theorem strs_len (a : List Bs) : (strs a).length = a.length := by simp [strs]
theorem strs_cell {ss : List Bs} : ∀ u ∈ strs ss, u.oneCell' = true := by
  intro u hu
  simp only [strs, List.mem_map] at hu
  obtain ⟨r, _, rfl⟩ := hu
  rfl
/-- What has been collected. -/
def accS (e : E) (j : Nat) : List Bs := (if e.op = 0 then [e.s] else []) ++ symss (e.l.take j)
theorem accS_succ (e : E) (j : Nat) (h : j < e.l.length) : accS e (j + 1) = accS e j ++ e.l[j].syms := by
  unfold accS
  rw [← List.take_append_getElem h, symss_append, ← List.append_assoc]
  congr 1
  simp [symss]
theorem accS_all (e : E) : accS e e.l.length = e.syms := by unfold accS; rw [List.take_length, E.syms_eq]
theorem accS_len (e : E) (j : Nat) : (accS e j).length ≤ e.size := by
  have h1 := E.size_eq e
  have h2 := symss_len (e.l.take j) 0 (fun x hx => syms_len x.size x (Nat.le_refl _))
  have h3 : sizes (e.l.take j) ≤ sizes e.l := by
    conv => rhs; rw [← List.take_append_drop j e.l]
    rw [sizes_append]; omega
  unfold accS
  split <;> simp <;> omega
set_option maxRecDepth 100000 in
set_option maxHeartbeats 8000000 in
theorem named_calls (n : Nat) : ∀ (e : E) (A : Option Addr) (c : Nat) (w : World) (M : Heap), ExV M e A c → Mem w M → e.size ≤ n → n ≤ 1000000 →
    Calls Tryz.prog 20 #[.agg #[.int .i64 e.op, .string (bs e.s), .slice A e.l.length c]] w (NmEnd w e.syms) := by
  obtain ⟨i0, hi, hzz⟩ := Option.map_eq_some_iff.1 Tryz.infoS
  simp only [Prod.mk.injEq] at hzz
  obtain ⟨hz0, hz1, hz2⟩ := hzz
  have HI := Hid.mk (And.intro hi (And.intro hz0 (And.intro hz1 hz2)))
  clear hi hz0 hz1 hz2
  induction n with
  | zero => intro e A c w M _ _ he; have := size_pos e; omega
  | succ n ih =>
    intro e A c w M he hM hn hbig
    have hsz := E.size_eq e
    have hll := length_sizes e.l
    have HE := Hid.mk he
    have HIH := Hid.mk ih
    have HB := Hid.mk (fun w' (hk : Kp [] (w.alloc (.cells #[.int .i64 e.op, .string (bs e.s), .slice A e.l.length c] 24)) w') => And.intro ((hM.alloc _).kp hk (by simp)) (And.intro ((Box.new hM #[.int .i64 e.op, .string (bs e.s), .slice A e.l.length c] 24).same hk (by simp)).three.1 (((Kp.refl _ _).alloc _).trans hk)))
    have hs1 : (w.alloc (.cells #[.int .i64 e.op, .string (bs e.s), .slice A e.l.length c] 24)).heap.size = w.heap.size + 1 := by simp
    have HS1 := Hid.mk hs1
    clear he hM ih hs1
    go_enter Tryz.func20, Tryz.ntmps20
    go_upto_if 7 with fail
    generalize (w.alloc (.cells #[.int .i64 e.op, .string (bs e.s), .slice A e.l.length c] 24)) = w1 at *
    go_cut [3] from 7 to 12 (fun v3 wy => Hid (wy.ownsRow (w.heap.size + 1) 9 1 v3 (accS e 0).length (strs (accS e 0))) ∧ Hid (accS e 0 = [] → v3 = .slice none 0 0) ∧ Kp [] w1 wy)
    case first =>
      obtain ⟨hM1, ⟨p0, p1, p2⟩, hK1⟩ := HB.out _ (Kp.refl [] w1)
      clear hM1 hK1
      by_cases h0 : e.op = 0
      · have b0 : (e.op == 0) = true := by rw [h0]; rfl
        have HA : Hid (accS e 0 = [e.s]) := Hid.mk (by unfold accS; simp [h0, symss])
        clear h0
        go_wp2_with (at_builtin; go_must (refine wpList_append_lies _ rfl (.tmp 8) (.tmp 11) 30 rfl (w.heap.size + 1) 9 i0 _ 1 16 Tryz.underlying30 HI.out.1 HI.out.2.1 HI.out.2.2.1 HI.out.2.2.2 rfl (Nat.succ_pos 0) (.slice none 0 0) 0 [] rfl ⟨rfl, .inl ⟨rfl, rfl⟩⟩ ⟨_, 0, none⟩ 1 1 [.string (bs e.s)] rfl rfl (str_cells (heap_alloc_new _ _)) str_one Nat.one_pos (by unfold maxLen; omega) (by omega) (by rw [← HS1.out]; simp) _ (by simp; rfl) ?_); intro g1 cap1 w5 hown5 hgr5 hat5 hlt5)
        go_meet
        case rel =>
          have hgr' : (w1.alloc (.cells #[.string (bs e.s)] 9)).grownBy w5 (Value.slice none 0 0).ownBlock := hgr5
          rw [HA.out]
          refine ⟨Hid.mk ?_, Hid.mk (fun h => by cases h), ?_⟩
          · exact hown5
          · exact Kp.grown ((Kp.refl [] w1).alloc _) hgr' (fun x hx => by cases hx)
      · have b0 : (e.op == 0) = false := by simpa using h0
        have HA : Hid (accS e 0 = []) := Hid.mk (by unfold accS; simp [h0, symss])
        clear h0
        go_wp2_with fail
        go_meet
        case rel =>
          rw [HA.out]
          exact ⟨Hid.mk ⟨rfl, .inl ⟨rfl, rfl⟩⟩, Hid.mk (fun _ => rfl), Kp.refl _ _⟩
    case rest =>
      obtain ⟨hO0, hN0, hK0⟩ := hcut
      go_wp2_with fail
      go_loopg [3, 4] e.l.length (fun kk v3 v wr => ∃ j : Nat, j ≤ e.l.length ∧ kk = e.l.length - j ∧ v = .int .i64 (j : Nat) ∧ Hid (wr.ownsRow (w.heap.size + 1) 9 1 v3 (accS e j).length (strs (accS e j))) ∧ Hid (accS e j = [] → v3 = .slice none 0 0) ∧ Kp [] w1 wr)
      case atStart => exact ⟨0, Nat.zero_le _, by simp, rfl, hO0, hN0, hK0⟩
      case round =>
        obtain ⟨j, hj, hkk, rfl, HO, HN, hK⟩ := hrel
        clear hK0 hO0 hN0
        obtain ⟨hM1, ⟨p0, p1, p2⟩, hK1⟩ := HB.out _ hK
        by_cases hlt : j < e.l.length
        · obtain ⟨bb, o, rfl⟩ := HE.out.place (by omega)
          obtain ⟨A', c', k0, k1, k2, hx⟩ := HE.out.at_ j hlt
          have q0 := hM1.cell k0
          have q1 := hM1.cell k1
          have q2 := hM1.cell k2
          have hjs := size_mem (List.getElem_mem hlt)
          have hal := accS_len e (j + 1)
          have HAS := Hid.mk (accS_succ e j hlt)
          have HC := Hid.mk (HIH.out e.l[j] A' c' wr M hx hM1 (by omega) (by omega))
          have HH := Hid.mk (And.intro hK (And.intro hM1 hK1))
          rw [HAS.out, List.length_append] at hal
          generalize e.l[j].syms = ks at *
          have hks := hK.size
          have HKS := Hid.mk hks
          have hb0 : w.heap.size + 1 ≤ wr.heap.size := by rw [← HS1.out]; exact hks
          have HB0 := Hid.mk hb0
          clear k0 k1 k2 hx hM1 hK1 hK hks hb0
          go_wp2_with fail
          refine HC.out.mono ?_
          intro en w3 hnm
          obtain ⟨vk, rfl, hok, hnk, hk3⟩ := hnm
          have HOK := Hid.mk hok
          have HK3 := Hid.mk hk3
          have HO3 := Hid.mk (ownb_keep HO.out hk3)
          by_cases hke : ks = []
          · obtain rfl := hnk hke
            have HKE := Hid.mk hke
            clear hok hk3 hnk hke HC q0 q1 q2 p0 p1 p2
            go_wp2_with (at_builtin; go_must (refine wpList_app_nil _ rfl (.tmp 20) (.tmp 26) 30 rfl (w.heap.size + 1) 9 i0 1 (accS e j).length Tryz.underlying30 HI.out.1 u3 (strs (accS e j)) rfl HO3.out rfl ?_))
            go_roundg (e.l.length - (j + 1))
            case measure => omega
            case rel =>
              have e1 : accS e (j + 1) = accS e j := by rw [HAS.out, HKE.out, List.append_nil]
              exact ⟨j + 1, by omega, rfl, by go_num, Hid.mk (by rw [e1]; exact HO3.out), Hid.mk (by rw [e1]; exact HN.out), HH.out.1.trans HK3.out⟩
          · have hkp : 0 < ks.length := List.length_pos_iff.2 hke
            obtain ⟨gk, ck, rfl, hck, hbk, hgk, hcells⟩ := ownb_form hok hkp
            have HKE := Hid.mk hke
            have HCE := Hid.mk hcells
            have HBG : Hid (((accS e j).length + ks.length ≤ maxLen) ∧ ((accS e j).length + ks.length) * 16 ≤ 140737488355328) := Hid.mk (by unfold maxLen; omega)
            have HLE : Hid (w.heap.size + 1 ≤ w3.heap.size) := Hid.mk (Nat.le_trans HB0.out hk3.size)
            clear hok hk3 hnk hke hck hbk hgk hcells HC q0 q1 q2 p0 p1 p2
            go_wp2_with (at_builtin; go_must (refine wpList_append_lies _ rfl (.tmp 20) (.tmp 26) 30 rfl (w.heap.size + 1) 9 i0 _ 1 16 Tryz.underlying30 HI.out.1 HI.out.2.1 HI.out.2.2.1 HI.out.2.2.2 rfl (Nat.succ_pos 0) u3 (accS e j).length (strs (accS e j)) rfl HO3.out ⟨gk, 0, none⟩ ks.length ck (strs ks) rfl (by rw [strs_len, Nat.mul_one]) (fun j' u hu => by rw [add_row]; exact HCE.out j' u hu) strs_cell hkp HBG.out.1 HBG.out.2 HLE.out _ rfl ?_); intro g1 cap1 w5 hown5 hgr5 hat5 hlt5)
            go_roundg (e.l.length - (j + 1))
            case measure => omega
            case rel =>
              have hgr' : w3.grownBy w5 u3.ownBlock := hgr5
              refine ⟨j + 1, by omega, rfl, by go_num, Hid.mk ?_, Hid.mk (fun h => ?_), ?_⟩
              · rw [HAS.out, List.length_append, strs_app]
                exact hown5
              · rw [HAS.out] at h
                exact absurd (List.append_eq_nil_iff.1 h).2 HKE.out
              · exact Kp.grown (HH.out.1.trans HK3.out) hgr' (fun x hx => .inr (by rw [HS1.out]; exact ownb_base HO3.out hx))
        · obtain rfl : j = e.l.length := by omega
          have hnlt : ¬ ((e.l.length : Int) < (e.l.length : Int)) := by omega
          have HX := Hid.mk (accS_all e)
          have HKK := Hid.mk hK1
          clear hM1 hK1
          go_wp2_with fail
          go_ret
          have h1 := HO.out
          have h2 := HN.out
          rw [HX.out] at h1 h2
          exact ⟨u3, rfl, ownb_mono h1 (Nat.le_succ _), h2, HKK.out⟩
end Go.Proofs.YtgdnhlckodhhgaaGreat

/-
  The symbols of an expression in a map: just these.
-/
namespace Go.Proofs.YtgdnhlckodhhgaaGreat
open Go.RowKit
set_option linter.unusedVariables false
set_option linter.unusedSimpArgs false
/-- The map's keys are just those of a list. -/
def ES (X : List Bs) (es : Array MapEntry) (clock : Nat) : Prop := ∃ ks : List Bs, es.toList.map (·.key) = ks.map (fun s => Value.string (bs s)) ∧ ks.Nodup ∧ (∀ s, s ∈ ks ↔ s ∈ X) ∧ (∀ s, s ∈ ks → s.length ≤ 1099511627776) ∧ (∀ x ∈ es.toList, x.born < clock) ∧ (es.toList.map (·.born)).Nodup
theorem ES.key {X : List Bs} {es : Array MapEntry} {clock : Nat} (h : ES X es clock) {x : MapEntry} (hx : x ∈ es.toList) : ∃ s, s ∈ X ∧ s.length ≤ 1099511627776 ∧ x.key = .string (bs s) := by
  obtain ⟨ks, h1, _, h3, h4, _⟩ := h
  have : x.key ∈ es.toList.map (·.key) := List.mem_map_of_mem hx
  rw [h1, List.mem_map] at this
  obtain ⟨s, hs, he⟩ := this
  exact ⟨s, (h3 s).1 hs, h4 s hs, he.symm⟩
theorem run_updX {X : List Bs} {w : World} {b clock : Nat} {s : Bs} {es : Array MapEntry} (hb : w.heap[b]? = some (.map es clock)) (hg : ES X es clock) (hl : s.length ≤ 1099511627776) :
    ∃ es' clock', (Instr.mapUpdate 41 (.map (some b)) (.string (bs s)) (.bool true)).run Tryz.prog w = .ok () { w with heap := w.heap.setIfInBounds b (.map es' clock') } ∧ ES (X ++ [s]) es' clock' := by
  obtain ⟨l, hkl⟩ := skey s hl
  have hm : Tryz.prog.underlying 41 = some (.map 9 4) := Tryz.underlying41
  have hkeys : ∀ e ∈ es.toList, ∃ l, keyOf Tryz.prog 9 e.key = some l := fun e he => by
    obtain ⟨s', _, h2, h3⟩ := hg.key he
    rw [h3]; exact skey s' h2
  obtain ⟨ks, g1, g2, g3, g4, g5, g6⟩ := hg
  rcases Tryz.slaw.find w hkl es.toList hkeys with ⟨h1, h2⟩ | ⟨j, e, h1, h2, h3⟩
  · have hns : s ∉ ks := fun hs => by
      have : Value.string (bs s) ∈ ks.map (fun s => Value.string (bs s)) := List.mem_map_of_mem hs
      rw [← g1, List.mem_map] at this
      obtain ⟨x, hx, he⟩ := this
      exact h2 x hx he
    refine ⟨es.push { key := .string (bs s), val := .bool true, born := clock }, clock + 1, ?_, ks ++ [s], ?_, ?_, ?_, ?_, ?_, ?_⟩
    · simp only [Instr.mapUpdate, Sem.run_bind, run_underlying hm, MapKept.run_getObj_map hb, Tryz.slaw.check w _ hkl, h1, Result.andThen, MapKept.run_setObj_map _ hb]
    · simp only [Array.toList_push, List.map_append, g1, List.map_cons, List.map_nil]
    · rw [List.nodup_append]
      refine ⟨g2, by simp, fun a ha b hb2 => ?_⟩
      simp only [List.mem_singleton] at hb2
      subst hb2
      rintro rfl
      exact hns ha
    · intro x
      simp [g3]
    · intro x hx
      rcases List.mem_append.1 hx with hx | hx
      · exact g4 x hx
      · simp only [List.mem_singleton] at hx; subst hx; exact hl
    · intro x hx
      simp only [Array.toList_push, List.mem_append, List.mem_singleton] at hx
      rcases hx with hx | rfl
      · have := g5 x hx; omega
      · exact Nat.lt_succ_self _
    · simp only [Array.toList_push, List.map_append, List.map_cons, List.map_nil]
      rw [List.nodup_append]
      refine ⟨g6, by simp, fun a ha b hb2 hab => ?_⟩
      obtain ⟨x, hx, rfl⟩ := List.mem_map.1 ha
      have := g5 x hx
      simp only [List.mem_singleton] at hb2
      omega
  · have hst := Tryz.slaw.stays w hkl
    have hj : es[j]? = some e := by rw [← Array.getElem?_toList]; exact h2
    have hsk : s ∈ ks := by
      have : e.key ∈ es.toList.map (·.key) := List.mem_map_of_mem (List.mem_of_getElem? h2)
      rw [g1, h3, List.mem_map] at this
      obtain ⟨s', hs', he⟩ := this
      injection he with he
      rw [← bs_inj he]; exact hs'
    refine ⟨es.modify j (fun e => { e with key := .string (bs s), val := .bool true }), clock, ?_, ks, ?_, g2, ?_, g4, ?_, ?_⟩
    · simp only [Instr.mapUpdate, Sem.run_bind, run_underlying hm, MapKept.run_getObj_map hb, Tryz.slaw.check w _ hkl, h1, Result.andThen, hj, Option.map_some, Option.getD_some, h3, hst, MapKept.run_setObj_map _ hb]
    · rw [← g1]
      apply List.ext_getElem
      · simp
      · intro i h1' h2'
        simp only [Array.toList_modify, List.getElem_map, List.getElem_modify]
        split
        · rename_i hij
          subst hij
          have h4 : es.toList[j]'(by simpa using h2') = e := by
            have := h2
            rw [List.getElem?_eq_getElem (by simpa using h2')] at this
            exact Option.some.inj this
          rw [h4, h3]
        · rfl
    · intro x
      rw [g3, List.mem_append, List.mem_singleton]
      exact ⟨fun h => .inl h, fun h => h.elim id (fun h => by subst h; exact (g3 _).1 hsk)⟩
    · intro x hx
      simp only [Array.toList_modify] at hx
      obtain ⟨i, hi, hx⟩ := List.getElem_of_mem hx
      rw [List.getElem_modify] at hx
      have hi' : i < es.toList.length := by simpa using hi
      have hg5 := g5 _ (List.getElem_mem hi')
      split at hx
      · subst hx; exact hg5
      · subst hx; exact hg5
    · have e : ((es.modify j (fun e => { e with key := .string (bs s), val := .bool true })).toList.map (·.born)) = es.toList.map (·.born) := by
        apply List.ext_getElem
        · simp
        · intro i h1 h2
          simp only [Array.toList_modify, List.getElem_map, List.getElem_modify]
          split <;> rfl
      rw [e]; exact g6
def GMX (w : World) (M : Heap) (gm : Nat) (X : List Bs) : Prop := ∃ es clock, Blk w M gm (.map es clock) ∧ ES X es clock
set_option maxRecDepth 100000 in
set_option maxHeartbeats 4000000 in
theorem gatherX_calls {M : Heap} {gm : Nat} (n : Nat) : ∀ (e : E) (A : Option Addr) (c : Nat) (w : World) (X : List Bs), ExV M e A c → e.wide ≤ 1099511627776 → e.size ≤ n → n ≤ 1000000 → Mem w M → GMX w M gm X →
    Calls Tryz.prog 18 #[.agg #[.int .i64 e.op, .string (bs e.s), .slice A e.l.length c], .map (some gm)] w fun en w' => en = .returned (.tuple #[]) ∧ Mem w' M ∧ GMX w' M gm (X ++ e.syms) ∧ Kp [gm] w w' := by
  induction n with
  | zero => intro e A c w X _ _ he; have := size_pos e; omega
  | succ n ih =>
    intro e A c w X h hwd hn hbig hM hG
    obtain ⟨es, clock, hm, hg⟩ := hG
    have hgm := hm.lt
    have hsz := E.size_eq e
    have hll := length_sizes e.l
    have hwe := E.wide_eq e
    have hb0 := Box.new hM #[.int .i64 e.op, .string (bs e.s), .slice A e.l.length c] 24
    obtain ⟨⟨p0, p1, p2⟩, _, _, _⟩ := hb0.three
    have HE := Hid.mk h
    have HIH := Hid.mk ih
    have HWE := Hid.mk hwe
    clear hwe ih
    go_enter Tryz.func18, Tryz.ntmps18
    go_upto_if 8 with fail
    go_cut [] from 8 to 11 (fun wy => Mem wy M ∧ Box wy M w.heap.size #[.int .i64 e.op, .string (bs e.s), .slice A e.l.length c] 24 ∧ Hid (GMX wy M gm (X ++ accS e 0)) ∧ Kp [gm] w wy)
    case first =>
      by_cases h0 : e.op = 0
      · have b0 : (e.op == 0) = true := by rw [h0]; rfl
        have HA : Hid (accS e 0 = [e.s]) := Hid.mk (by unfold accS; simp [h0, symss])
        obtain ⟨es', clock', hupd, hg'⟩ := run_updX (w := w.alloc (.cells #[.int .i64 e.op, .string (bs e.s), .slice A e.l.length c] 24)) (s := e.s) (hm.alloc _).blk hg (by have := HWE.out; omega)
        have HH := Hid.mk (And.intro hm (And.intro hg' hb0))
        clear hm hg hb0 h h0 hg'
        go_wp2_with fail
        go_meet
        case rel =>
          obtain ⟨hm, hg', hb0⟩ := HH.out
          have hks : Kp [gm] (w.alloc (.cells #[.int .i64 e.op, .string (bs e.s), .slice A e.l.length c] 24)) { (w.alloc (.cells #[.int .i64 e.op, .string (bs e.s), .slice A e.l.length c] 24)) with heap := (w.alloc (.cells #[.int .i64 e.op, .string (bs e.s), .slice A e.l.length c] 24)).heap.setIfInBounds gm (.map es' clock') } := (Kp.refl [gm] _).setObj _ (.inl (by simp))
          refine ⟨(hM.alloc _).kp hks (by simpa using hm.out), hb0.same hks (by simp; omega), Hid.mk ⟨es', clock', ⟨?_, hm.out⟩, by rw [HA.out]; exact hg'⟩, ((Kp.refl [gm] w).alloc _).trans hks⟩
          show ((w.alloc _).heap.setIfInBounds gm _)[gm]? = _
          rw [Array.getElem?_setIfInBounds_self, if_pos (show gm < (w.alloc _).heap.size by simp; omega)]
      · have b0 : (e.op == 0) = false := by simpa using h0
        have HA : Hid (accS e 0 = []) := Hid.mk (by unfold accS; simp [h0, symss])
        clear h0
        go_wp2_with fail
        go_meet
        case rel => exact ⟨hM.alloc _, hb0, Hid.mk ⟨es, clock, hm.alloc _, by rw [HA.out, List.append_nil]; exact hg⟩, (Kp.refl _ _).alloc _⟩
    case rest =>
      obtain ⟨hM1, hb1, hG1, hK1⟩ := hcut
      clear p0 p1 p2 hm hg hb0 h
      obtain ⟨⟨p0, p1, p2⟩, _, _, _⟩ := hb1.three
      have HH := Hid.mk (And.intro hM1 (And.intro hb1 (And.intro hG1 hK1)))
      clear hM1 hb1 hG1 hK1
      go_wp2_with fail
      go_loopg [15] e.l.length (fun kk v wr => ∃ j : Nat, j ≤ e.l.length ∧ kk = e.l.length - j ∧ v = .int .i64 (j : Nat) ∧ Mem wr M ∧ Hid (GMX wr M gm (X ++ accS e j)) ∧ Kp [gm] w wr)
      case atStart => exact ⟨0, Nat.zero_le _, by simp, rfl, HH.out.1, HH.out.2.2.1, HH.out.2.2.2⟩
      case round =>
        clear HH p0 p1 p2
        obtain ⟨j, hj, hkk, rfl, hM', hG', hK'⟩ := hrel
        by_cases hlt : j < e.l.length
        · obtain ⟨bb, o, rfl⟩ := HE.out.place (by omega)
          obtain ⟨A', c', k0, k1, k2, hx⟩ := HE.out.at_ j hlt
          have q0 := hM'.cell k0
          have q1 := hM'.cell k1
          have q2 := hM'.cell k2
          have hjs := size_mem (List.getElem_mem hlt)
          have hjw := wide_mem (List.getElem_mem hlt)
          have hwe := HWE.out
          have HAS := Hid.mk (accS_succ e j hlt)
          have hw1 : e.l[j].wide ≤ 1099511627776 := by omega
          have HX := Hid.mk hx
          have HH := Hid.mk (And.intro hM' (And.intro hG' hK'))
          clear k0 k1 k2 hx hM' hG' hK' hwe
          go_wp2_with fail
          obtain ⟨es2, clock2, hm2, hg2⟩ := HH.out.2.1.out
          refine (HIH.out e.l[j] A' c' _ (X ++ accS e j) HX.out hw1 (by omega) (by omega) (HH.out.1.alloc _) ⟨es2, clock2, hm2.alloc _, hg2⟩).mono ?_
          rintro en w5 ⟨rfl, hM5, hG5, hk5⟩
          have HZ := Hid.mk (And.intro hM5 (And.intro hG5 ((HH.out.2.2.alloc _).trans hk5)))
          clear hM5 hG5 hk5 hm2 hg2
          go_wp2_with fail
          go_roundg (e.l.length - (j + 1))
          case measure => omega
          case rel => exact ⟨j + 1, by omega, rfl, by go_num, HZ.out.1, Hid.mk (by rw [HAS.out, ← List.append_assoc]; exact HZ.out.2.1), HZ.out.2.2⟩
        · obtain rfl : j = e.l.length := by omega
          have hnlt : ¬ ((e.l.length : Int) < (e.l.length : Int)) := by omega
          have hfin := hG'.out
          rw [accS_all] at hfin
          have HF := Hid.mk hfin
          clear hfin
          go_wp2_with fail
          go_end0
          exact ⟨rfl, hM', HF.out, hK'⟩
end Go.Proofs.YtgdnhlckodhhgaaGreat

/-
  The library's sort at a row of the call's own.
-/
namespace Go.Proofs.YtgdnhlckodhhgaaGreat
open Go.RowKit Go.Sort
set_option linter.unusedVariables false
set_option linter.unusedSimpArgs false
/-- Behind the sort: the same slice has the sorted list. -/
def SoEnd (w : World) (base : Nat) (v : Value) (ss : List Bs) (en : Ending) (w' : World) : Prop := en = .returned (.tuple #[]) ∧ w'.ownsRow base 9 1 v ss.length (strs (ss.mergeSort leB)) ∧ w.grownBy w' v.ownBlock
theorem sort_len (ss : List Bs) : (ss.mergeSort leB).length = ss.length := (List.mergeSort_perm ss leB).length_eq
theorem slicesSort_own {w : World} {base : Nat} {v : Value} {ss : List Bs} (h : w.ownsRow base 9 1 v ss.length (strs ss)) (hl : ss.length ≤ 1000000) : Calls Tryz.prog 19 #[v] w (SoEnd w base v ss) := by
  by_cases h0 : ss = []
  · subst h0
    have hv : ∃ p c, v = .slice p 0 c := by
      rcases h.2 with ⟨rfl, _⟩ | ⟨g, cap, cur, rfl, _⟩
      · exact ⟨_, _, rfl⟩
      · exact ⟨_, _, rfl⟩
    obtain ⟨p, c, rfl⟩ := hv
    refine (Tryz.slices_Sort_string_none p c w).mono fun e w' ⟨he, hw⟩ => ?_
    subst hw
    exact ⟨he, by rw [List.mergeSort_nil]; exact h, World.grownBy.refl _ _⟩
  · have hp : 0 < ss.length := List.length_pos_iff.2 h0
    obtain ⟨h1, ⟨rfl, h2⟩ | ⟨g, cap, cur, rfl, hbase, hb, h3, h4, h5, h6⟩⟩ := h
    · rw [h2] at h1
      simp at h1
      omega
    · rw [Nat.mul_one] at h6
      refine (Tryz.slices_Sort_string g 0 cap ss w (holds_of_block hb h6) (Array.getElem?_eq_some_iff.1 hb).1 (by omega)).mono fun e w' ⟨he, n, os, hw⟩ => ?_
      subst hw
      exact ⟨he, ownsRow_sorted (sort_len ss) hbase hb h3 h4 h5, grownBy_sorted _⟩
theorem sortStrings_own {w : World} {base : Nat} {v : Value} {ss : List Bs} (h : w.ownsRow base 9 1 v ss.length (strs ss)) (hl : ss.length ≤ 1000000) : Calls Tryz.prog 21 #[v] w (SoEnd w base v ss) := by
  by_cases h0 : ss = []
  · subst h0
    have hv : ∃ p c, v = .slice p 0 c := by
      rcases h.2 with ⟨rfl, _⟩ | ⟨g, cap, cur, rfl, _⟩
      · exact ⟨_, _, rfl⟩
      · exact ⟨_, _, rfl⟩
    obtain ⟨p, c, rfl⟩ := hv
    refine (Tryz.sort_Strings_none p c w).mono fun e w' ⟨he, hw⟩ => ?_
    subst hw
    exact ⟨he, by rw [List.mergeSort_nil]; exact h, World.grownBy.refl _ _⟩
  · have hp : 0 < ss.length := List.length_pos_iff.2 h0
    obtain ⟨h1, ⟨rfl, h2⟩ | ⟨g, cap, cur, rfl, hbase, hb, h3, h4, h5, h6⟩⟩ := h
    · rw [h2] at h1
      simp at h1
      omega
    · rw [Nat.mul_one] at h6
      refine (Tryz.sort_Strings g 0 cap ss w (holds_of_block hb h6) (Array.getElem?_eq_some_iff.1 hb).1 (by omega)).mono fun e w' ⟨he, n, os, hw⟩ => ?_
      subst hw
      exact ⟨he, ownsRow_sorted (sort_len ss) hbase hb h3 h4 h5, grownBy_sorted _⟩
/-- What Symbols answers. -/
noncomputable def symR (e : E) : List Bs × Int := if verdict e = 0 then (if 40 < (dd (e.syms.mergeSort leB)).length then ([], 3) else (dd (e.syms.mergeSort leB), 0)) else ([], verdict e)
def SyEnd (w : World) (r : List Bs × Int) (en : Ending) (w' : World) : Prop := ∃ v, en = .returned (.tuple #[v, .int .i64 r.2]) ∧ w'.ownsRow w.heap.size 9 1 v r.1.length (strs r.1) ∧ Kp [] w w'
theorem own_nil (w : World) (base : Nat) (e : TypeId) : w.ownsRow base e 1 (.slice none 0 0) 0 [] := ⟨rfl, .inl ⟨rfl, rfl⟩⟩
theorem ownb_kp {w w1 : World} {base size n : Nat} {e : TypeId} {v : Value} {xs : List Value} {S : List Nat} (h : w.ownsRow base e size v n xs) (k : Kp S w w1) (hS : ∀ x, x ∈ S → x < base) : w1.ownsRow base e size v n xs := by
  obtain ⟨h1, h2⟩ := h
  refine ⟨h1, ?_⟩
  rcases h2 with h2 | ⟨g, cap, cur, h2, h0, h3, r⟩
  · exact .inl h2
  · exact .inr ⟨g, cap, cur, h2, h0, (k.block g (Array.getElem?_eq_some_iff.1 h3).1 (fun hx => by have := hS g hx; omega)).trans h3, r⟩
theorem Kp.of_grow {w w1 : World} {v : Value} (h : w.grownBy w1 v.ownBlock) : Kp v.ownBlock.toList w w1 := (Kp.refl _ w).grown h (fun x hx => .inl (by simp [hx]))
end Go.Proofs.YtgdnhlckodhhgaaGreat

/-
  Symbols, by the program.
-/
namespace Go.Proofs.YtgdnhlckodhhgaaGreat
open Go.RowKit
set_option linter.unusedVariables false
set_option linter.unusedSimpArgs false
theorem nodup_idx {α : Type} {l : List α} (h : l.Nodup) {i j : Nat} (hi : i < l.length) (hj : j < l.length) (he : l[i] = l[j]) : i = j := by
  have hp := List.pairwise_iff_getElem.1 h
  rcases Nat.lt_trichotomy i j with h1 | h1 | h1
  · exact absurd he (hp i j hi hj h1)
  · exact h1
  · exact absurd he.symm (hp j i hj hi h1)
/-- How many keys a map has. -/
theorem run_len_map {w : World} {r : Nat} {es : Array MapEntry} {clock : Nat} (hb : w.heap[r]? = some (.map es clock)) : (Builtin.len_ #[41] 3 #[.map (some r)]).run Tryz.prog w = .ok (.int .i64 es.size) w := by
  have hm : Tryz.prog.underlying 41 = some (.map 9 4) := Tryz.underlying41
  have ht : Tryz.prog.underlying 3 = some (.int .i64) := Tryz.underlying3
  simp [Builtin.len_, run_underlying hm, run_underlying ht, MapKept.run_getObj_map hb]
  rfl
/-- The keys that have been handed out. -/
def Got (es : Array MapEntry) (seen : Array Nat) (got : List Bs) : Prop := got.Nodup ∧ ∀ s : Bs, s ∈ got ↔ ∃ x, x ∈ es.toList ∧ x.key = .string (bs s) ∧ seen.contains x.born = true
theorem got_start (es : Array MapEntry) : Got es #[] [] := ⟨List.nodup_nil, fun s => by simp⟩
theorem es_key_inj {X : List Bs} {es : Array MapEntry} {clock : Nat} (h : ES X es clock) {x y : MapEntry} (hx : x ∈ es.toList) (hy : y ∈ es.toList) (hk : x.key = y.key) : x = y := by
  obtain ⟨ks, h1, h2, _⟩ := h
  obtain ⟨i, hi, rfl⟩ := List.getElem_of_mem hx
  obtain ⟨j, hj, rfl⟩ := List.getElem_of_mem hy
  have hlen : es.toList.length = ks.length := by have := congrArg List.length h1; simpa using this
  have e1 : ∀ n (hn : n < es.toList.length), (es.toList[n]).key = .string (bs (ks[n]'(by omega))) := fun n hn => by
    have : (es.toList.map (·.key))[n]'(by simpa using hn) = (ks.map (fun s => Value.string (bs s)))[n]'(by simp; omega) := by simp only [h1]
    simpa using this
  rw [e1 i hi, e1 j hj] at hk
  injection hk with hk
  have hij := nodup_idx h2 _ _ (bs_inj hk)
  subst hij
  rfl
theorem got_step {X : List Bs} {es : Array MapEntry} {clock : Nat} {seen : Array Nat} {got : List Bs} {x : MapEntry} {s : Bs} (h : ES X es clock) (hg : Got es seen got) (hx : x ∈ es.toList) (hk : x.key = .string (bs s)) (hn : seen.contains x.born = false) : Got es (seen.push x.born) (got ++ [s]) := by
  obtain ⟨g1, g2⟩ := hg
  have hns : s ∉ got := fun hs => by
    obtain ⟨y, hy, hky, hsy⟩ := (g2 s).1 hs
    have := es_key_inj h hx hy (hk.trans hky.symm)
    subst this
    rw [hn] at hsy
    cases hsy
  refine ⟨?_, fun s' => ?_⟩
  · rw [List.nodup_append]
    refine ⟨g1, by simp, fun a ha b hb => ?_⟩
    simp only [List.mem_singleton] at hb
    subst hb
    rintro rfl
    exact hns ha
  · rw [List.mem_append, List.mem_singleton, g2]
    constructor
    · rintro (⟨y, hy, hky, hsy⟩ | rfl)
      · exact ⟨y, hy, hky, by rw [push_contains, hsy]; rfl⟩
      · exact ⟨x, hx, hk, by rw [push_contains]; simp⟩
    · rintro ⟨y, hy, hky, hsy⟩
      rw [push_contains, Bool.or_eq_true] at hsy
      rcases hsy with hsy | hsy
      · exact .inl ⟨y, hy, hky, hsy⟩
      · right
        have hb : y.born = x.born := by simpa using hsy
        obtain ⟨_, _, _, _, _, _, hnd⟩ := h
        have hyx : y = x := by
          obtain ⟨i, hi, rfl⟩ := List.getElem_of_mem hy
          obtain ⟨j, hj, rfl⟩ := List.getElem_of_mem hx
          have hij := nodup_idx hnd (i := i) (j := j) (by simpa using hi) (by simpa using hj) (by simpa using hb)
          subst hij
          rfl
        subst hyx
        rw [hk] at hky
        injection hky with hky
        exact (bs_inj hky).symm
theorem left_none {es : Array MapEntry} {seen : Array Nat} (h : (leftOf es seen).size = 0) {x : MapEntry} (hx : x ∈ es.toList) : seen.contains x.born = true := by
  unfold leftOf at h
  cases hc : seen.contains x.born with
  | true => rfl
  | false =>
    have : x ∈ (Array.filter (fun e => !seen.contains e.born) es) := by
      rw [Array.mem_filter]
      exact ⟨by simpa using hx, by rw [hc]; rfl⟩
    have := Array.size_pos_of_mem this
    omega
theorem got_end {X : List Bs} {es : Array MapEntry} {clock : Nat} {seen : Array Nat} {got : List Bs} (h : ES X es clock) (hg : Got es seen got) (h0 : (leftOf es seen).size = 0) : got.mergeSort leB = dd (X.mergeSort leB) := by
  refine sorted_same hg.1 (fun s => ?_)
  rw [hg.2]
  obtain ⟨ks, h1, _, h3, _⟩ := id h
  constructor
  · rintro ⟨x, hx, hk, _⟩
    obtain ⟨s', hs', _, hk'⟩ := h.key hx
    rw [hk] at hk'
    injection hk' with hk'
    rw [bs_inj hk']; exact hs'
  · intro hs
    have : Value.string (bs s) ∈ ks.map (fun s => Value.string (bs s)) := List.mem_map_of_mem ((h3 s).2 hs)
    rw [← h1, List.mem_map] at this
    obtain ⟨x, hx, hk⟩ := this
    exact ⟨x, hx, hk, left_none h0 hx⟩
theorem es_size {X : List Bs} {es : Array MapEntry} {clock : Nat} (h : ES X es clock) : es.size = (dd (X.mergeSort leB)).length := by
  obtain ⟨ks, h1, h2, h3, _⟩ := h
  rw [← sorted_same h2 h3, sort_len]
  have := congrArg List.length h1
  simpa using this
theorem left_le (es : Array MapEntry) (seen : Array Nat) : (leftOf es seen).size ≤ es.size := by unfold leftOf; exact Array.size_filter_le
set_option maxRecDepth 100000 in
set_option maxHeartbeats 4000000 in
theorem eSymbols_calls {e : E} (hm : e.mass ≤ 1099511627776) (A : Option Addr) (c : Nat) (w : World) (M : Heap) (he : ExV M e A c) (hM : Mem w M) :
    Calls Tryz.prog 8 #[.agg #[.int .i64 e.op, .string (bs e.s), .slice A e.l.length c]] w (SyEnd w (symR e)) := by
  obtain ⟨i0, hi, hzz⟩ := Option.map_eq_some_iff.1 Tryz.infoS
  simp only [Prod.mk.injEq] at hzz
  obtain ⟨hz0, hz1, hz2⟩ := hzz
  have HI := Hid.mk (And.intro hi (And.intro hz0 (And.intro hz1 hz2)))
  clear hi hz0 hz1 hz2
  have hsa := size_mass e
  have hwa := wide_mass e
  have HV := Hid.mk (fun w' hM' => Validate_calls e A c w' M he hM' (by omega) (by omega))
  have HB := Hid.mk (box_later hM (.int .i64 e.op) (.string (bs e.s)) (.slice A e.l.length c))
  by_cases hv : verdict e = 0
  · obtain ⟨v1, v2, v3⟩ := verdict_zero hv
    have hR : symR e = if 40 < (dd (e.syms.mergeSort leB)).length then ([], 3) else (dd (e.syms.mergeSort leB), 0) := by unfold symR; rw [if_pos hv]
    have HR := Hid.mk hR
    have HE := Hid.mk he
    rw [hv] at HV
    clear hv hR he hM v2 v3
    have hmm := @run_makeMap Tryz.prog
    go_enter Tryz.func8, Tryz.ntmps8
    go_wp2_with fail
    refine (HV.out _ (HB.out _ (Kp.refl _ _)).1).mono ?_
    rintro en w2 ⟨rfl, hk2⟩
    obtain ⟨hM2, ⟨z0, z1, z2⟩, hK2⟩ := HB.out _ (hk2.alloc (.map #[] 0))
    have hbm := Blk.new (HB.out _ hk2).1 (.map #[] 0)
    have HG := Hid.mk (gatherX_calls (gm := w2.heap.size) e.size e A c _ [] HE.out (by omega) (Nat.le_refl _) (by omega) hM2 ⟨#[], 0, hbm, [], by simp, by simp, by simp, by simp, by simp, by simp⟩)
    have HK2 := Hid.mk (And.intro hM2 (And.intro hK2 ((HB.out _ hk2).2.2.size)))
    clear hk2 hM2 hK2 hbm
    go_wp2_with fail
    refine HG.out.mono ?_
    rintro en w3 ⟨rfl, hM3, ⟨es, clock, hm3, hg3⟩, hk3⟩
    rw [List.nil_append] at hg3
    have hws : w.heap.size ≤ w2.heap.size := HK2.out.2.2
    have hK3 : Kp [] w w3 := HK2.out.2.1.inner hk3 (by simp; omega)
    have hes := es_size hg3
    have hblk := hm3.blk
    have hlen := run_len_map hblk
    have HM3 := Hid.mk (And.intro hm3 (And.intro hg3 (And.intro hM3 hK3)))
    clear hm3 hg3 hM3 hK3 hk3 z0 z1 z2 hmm HG
    by_cases h40 : 40 < (dd (e.syms.mergeSort leB)).length
    · have hR := HR.out
      rw [if_pos h40] at hR
      have HR2 := Hid.mk hR
      have h40' : (40 : Int) < (es.size : Int) := by omega
      clear hR h40 hes
      go_wp2_with fail
      go_ret2
      rw [HR2.out]
      exact ⟨_, rfl, own_nil _ _ _, HM3.out.2.2.2⟩
    · have hR := HR.out
      rw [if_neg h40] at hR
      have HR2 := Hid.mk hR
      have h40' : ¬ (40 : Int) < (es.size : Int) := by omega
      have h41 : es.size ≤ 40 := by omega
      have hrg := run_range_map (P := Tryz.prog) w3 41 9 4 w2.heap.size es clock Tryz.underlying41 hblk
      have hbi := Blk.new HM3.out.2.2.1 (.mapIter (some w2.heap.size) clock #[] clock)
      have hlt3 : w2.heap.size < w3.heap.size := HM3.out.1.lt
      have hk4 : Kp [] w3 (w3.alloc (.mapIter (some w2.heap.size) clock #[] clock)) := (Kp.refl [] w3).alloc _
      have hsI : (w3.alloc (.mapIter (some w2.heap.size) clock #[] clock)).heap.size = w3.heap.size + 1 := by simp
      have HJ := Hid.mk (And.intro (HM3.out.1.same hk4 (by simp)) (And.intro hbi (And.intro (HM3.out.2.2.1.kp hk4 (by simp)) (And.intro (HM3.out.2.2.2.trans hk4) hsI))))
      clear hR h40 hes hbi hk4 hblk hsI
      go_wp2_with fail
      clear hrg hlen h40'
      generalize (w3.alloc (.mapIter (some w2.heap.size) clock #[] clock)) = wI at *
      have HLT := Hid.mk (And.intro hws hlt3)
      have hsw : w.heap.size ≤ w3.heap.size := by omega
      go_loopg [6] (es.size + 1) (fun kk v6 wr => ∃ seen got, Blk wr M w2.heap.size (.map es clock) ∧ Blk wr M w3.heap.size (.mapIter (some w2.heap.size) clock seen clock) ∧ (leftOf es seen).size < kk ∧ got.length + (leftOf es seen).size ≤ es.size ∧ Hid (Got es seen got) ∧ Hid (wr.ownsRow (w3.heap.size + 1) 9 1 v6 got.length (strs got)) ∧ Mem wr M ∧ Kp [w3.heap.size] wI wr)
      case atStart =>
        have hll := left_le es #[]
        exact ⟨#[], [], HJ.out.1, HJ.out.2.1, by omega, by simpa using hll, Hid.mk (got_start es), Hid.mk (own_nil _ _ _), HJ.out.2.2.1, Kp.refl _ _⟩
      case round =>
        obtain ⟨seen, got, hbm, hbi, hleft, hgl, HG, HO, hM', hK⟩ := hrel
        have hkI : Kp [] w wr := HJ.out.2.2.2.1.inner hK (by simp; omega)
        rcases run_next (P := Tryz.prog) 0 w2.heap.size clock clock w3.heap.size seen es clock hbm.blk hbi.blk (fun x hx => by obtain ⟨_, _, _, _, _, h5, _⟩ := HM3.out.2.1; exact h5 x hx) (Nat.le_refl _) with ⟨h0, hrun⟩ | ⟨x, hem, w5, hk5, hbi5, hsz5, hrun⟩
        · have HEND := Hid.mk (got_end HM3.out.2.1 HG.out h0)
          have HSO := Hid.mk (slicesSort_own HO.out (by omega))
          have HKI := Hid.mk hkI
          clear hbm hbi hleft h0 hM' hK hkI
          go_wp2_with fail
          refine HSO.out.mono ?_
          intro en w7 hso
          obtain ⟨rfl, hown7, hgr7⟩ := hso
          have HF := Hid.mk (And.intro hown7 (Kp.grown HKI.out hgr7 (fun x hx => .inr (by have := ownb_base HO.out hx; omega))))
          clear hown7 hgr7 hrun
          go_wp2_with fail
          go_ret2
          rw [HR2.out]
          refine ⟨_, rfl, ?_, HF.out.2⟩
          have h1 := HF.out.1
          rw [HEND.out] at h1
          have h2 : got.length = (dd (e.syms.mergeSort leB)).length := by rw [← HEND.out, sort_len]
          rw [h2] at h1
          exact ownb_mono h1 (by omega)
        · obtain ⟨hxe, hns⟩ := mem_left hem
          obtain ⟨s, hS, hsl, hkey⟩ := HM3.out.2.1.key hxe
          have hbm5 := hbm.same hk5 (by simp; omega)
          have hM5 := hM'.kp hk5 (by simpa using hbi.out)
          have hen := run_entry (P := Tryz.prog) w2.heap.size clock w3.heap.size seen es clock x hbm5.blk hbi5 hxe (by obtain ⟨_, _, _, _, _, _, h6⟩ := HM3.out.2.1; exact h6)
          have hshr := left_shrinks es seen x hem
          rw [hkey] at hrun hen
          have HGS := Hid.mk (got_step HM3.out.2.1 HG.out hxe hkey hns)
          have HO5 := Hid.mk (ownb_kp HO.out hk5 (by simp))
          have hI1 := hK.size
          have hI2 := hk5.size
          have HSZ := Hid.mk (show w3.heap.size + 1 ≤ w5.heap.size by rw [← HJ.out.2.2.2.2]; omega)
          have HBG : Hid ((got.length + 1 ≤ maxLen) ∧ (got.length + 1) * 16 ≤ 140737488355328) := Hid.mk (by unfold maxLen; omega)
          have HZ := Hid.mk (And.intro hbm5 (And.intro hbi5 (And.intro hbi.out (And.intro hM5 (hK.trans hk5)))))
          clear hbm hbi hM' hK hkI hbm5 hbi5 hM5 hk5 hkey hI1 hI2 hsz5 hns
          go_wp2_with (at_builtin; go_must (refine wpList_append_lies _ rfl (.tmp 26) (.tmp 28) 30 rfl (w3.heap.size + 1) 9 i0 _ 1 16 Tryz.underlying30 HI.out.1 HI.out.2.1 HI.out.2.2.1 HI.out.2.2.2 rfl (Nat.succ_pos 0) u6 got.length (strs got) rfl (ownb_alloc HO5.out _) ⟨_, 0, none⟩ 1 1 [.string (bs s)] rfl rfl (str_cells (heap_alloc_new _ _)) str_one Nat.one_pos HBG.out.1 HBG.out.2 (by have := HSZ.out; simp; omega) _ (by simp; rfl) ?_); intro g1 cap1 w6 hown6 hgr6 hat6 hlt6)
          go_roundg ((leftOf es (seen.push x.born)).size + 1)
          case measure => omega
          case rel =>
            have hgr' : (w5.alloc (.cells #[.string (bs s)] 9)).grownBy w6 u6.ownBlock := hgr6
            have hkg := Kp.of_grow hgr'
            have hno : ∀ b, b ≤ w3.heap.size → b ∉ u6.ownBlock.toList := fun b hb hx => by
              have := ownb_base HO5.out (x := b) (by simpa using hx)
              omega
            refine ⟨seen.push x.born, got ++ [s], (HZ.out.1.alloc _).same hkg (hno _ (by omega)), Blk.same (Blk.alloc ⟨HZ.out.2.1, HZ.out.2.2.1⟩ _) hkg (hno _ (Nat.le_refl _)), by omega, by simp; omega, HGS, Hid.mk ?_, ?_, ?_⟩
            · rw [List.length_append, strs_app]
              exact hown6
            · refine (HZ.out.2.2.2.1.alloc _).kp hkg (fun b hb => ?_)
              have h7 := ownb_base HO5.out (x := b) (by simpa using hb)
              refine HM3.out.2.2.1.ge (by omega)
            · exact Kp.grown (HZ.out.2.2.2.2.alloc _) hgr' (fun b hb => .inr (by rw [HJ.out.2.2.2.2]; exact ownb_base HO5.out hb))
  · have hv2 : (verdict e != 0) = true := by simpa using hv
    have HR : Hid (symR e = ([], verdict e)) := Hid.mk (by unfold symR; rw [if_neg hv])
    have HK := Hid.mk (HB.out _ (Kp.refl _ _)).1
    generalize verdict e = k at *
    clear hv he hM hsa hwa hm
    go_enter Tryz.func8, Tryz.ntmps8
    go_wp2_with fail
    refine (HV.out _ HK.out).mono ?_
    rintro en w2 ⟨rfl, hk2⟩
    have HZ := Hid.mk (HB.out _ hk2).2.2
    clear hk2
    go_wp2_with fail
    go_ret2
    rw [HR.out]
    exact ⟨_, rfl, own_nil _ _ _, HZ.out⟩
end Go.Proofs.YtgdnhlckodhhgaaGreat

/-
  Symbols, by the reference.
-/
namespace Go.Proofs.YtgdnhlckodhhgaaGreat
open Go.RowKit
set_option linter.unusedVariables false
set_option linter.unusedSimpArgs false
theorem take_last {L : List Bs} {j : Nat} (h0 : 0 < j) (hj : j ≤ L.length) : (L.take j).getLastD [] = L[j - 1]'(by omega) := by
  have hne : L.take j ≠ [] := fun e => by
    have h2 := List.length_take (i := j) (l := L)
    rw [e] at h2
    simp only [List.length_nil] at h2
    omega
  rw [List.getLastD_eq_getLast?, List.getLast?_eq_getElem?, List.length_take, Nat.min_eq_left hj, List.getElem?_take, if_pos (by omega), List.getElem?_eq_getElem (by omega)]
  rfl
theorem dd_take {L : List Bs} {j : Nat} (hj : j < L.length) : dd (L.take (j + 1)) = if h0 : j = 0 then [L[j]] else dd (L.take j) ++ (if L[j - 1] = L[j] then [] else [L[j]]) := by
  rw [← List.take_append_getElem hj]
  split
  · rename_i h0; subst h0; rfl
  · rename_i h0
    rw [dd_snoc _ _ (fun e => by
      have h2 := List.length_take (i := j) (l := L)
      rw [e] at h2
      simp only [List.length_nil] at h2
      omega), take_last (by omega) (by omega)]
theorem dd_take_len (L : List Bs) (j : Nat) : (dd (L.take j)).length ≤ L.length := by
  have h1 := dd_len (L.take j)
  have h2 := List.length_take_le' j L
  omega
theorem ownb_drewN {w : World} {base size n : Nat} {e : TypeId} {v : Value} {xs : List Value} (h : w.ownsRow base e size v n xs) (k : Nat) : (w.drewN k).ownsRow base e size v n xs := h
set_option maxRecDepth 100000 in
set_option maxHeartbeats 4000000 in
theorem rSymbols_calls {e : E} (hm : e.mass ≤ 1099511627776) (A : Option Addr) (c : Nat) (w : World) (M : Heap) (he : ExV M e A c) (hM : Mem w M) :
    Calls Tryz.prog 9 #[.agg #[.int .i64 e.op, .string (bs e.s), .slice A e.l.length c]] w (SyEnd w (symR e)) := by
  obtain ⟨i0, hi, hzz⟩ := Option.map_eq_some_iff.1 Tryz.infoS
  simp only [Prod.mk.injEq] at hzz
  obtain ⟨hz0, hz1, hz2⟩ := hzz
  have HI := Hid.mk (And.intro hi (And.intro hz0 (And.intro hz1 hz2)))
  clear hi hz0 hz1 hz2
  have hsa := size_mass e
  have hwa := wide_mass e
  have HV := Hid.mk (fun w' hM' => rValidate_calls e A c w' M he hM' (by omega) (by omega))
  have HB := Hid.mk (box_later hM (.int .i64 e.op) (.string (bs e.s)) (.slice A e.l.length c))
  by_cases hv : verdict e = 0
  · obtain ⟨v1, v2, v3⟩ := verdict_zero hv
    have hR : symR e = if 40 < (dd (e.syms.mergeSort leB)).length then ([], 3) else (dd (e.syms.mergeSort leB), 0) := by unfold symR; rw [if_pos hv]
    have HR := Hid.mk hR
    have hsl := syms_len e.size e (Nat.le_refl _)
    have HN := Hid.mk (fun w' hM' => named_calls e.size e A c w' M he hM' (Nat.le_refl _) (by omega))
    have hLL := sort_len e.syms
    rw [hv] at HV
    clear hv hR he hM v2 v3
    go_enter Tryz.func9, Tryz.ntmps9
    go_wp2_with fail
    refine (HV.out _ (HB.out _ (Kp.refl _ _)).1).mono ?_
    rintro en w2 ⟨rfl, hk2⟩
    obtain ⟨hM2, ⟨z0, z1, z2⟩, hK2⟩ := HB.out _ hk2
    have HK2 := Hid.mk (And.intro hM2 hK2)
    clear hk2 hM2 hK2
    go_wp2_with fail
    refine (HN.out _ HK2.out.1).mono ?_
    intro en w3 hnm
    obtain ⟨v, rfl, hown, hnil, hk3⟩ := hnm
    have HSO := Hid.mk (sortStrings_own hown (by omega))
    have HO3 := Hid.mk hown
    have HNIL := Hid.mk hnil
    have HK3 := Hid.mk (HK2.out.2.trans hk3)
    have hs23 := HK2.out.2.size
    clear hown hnil hk3 z0 z1 z2
    go_wp2_with fail
    refine HSO.out.mono ?_
    intro en w4 hso
    obtain ⟨rfl, hown4, hgr4⟩ := hso
    have HK4 := Hid.mk (Kp.grown HK3.out hgr4 (fun x hx => .inr (by have := ownb_base HO3.out hx; omega)))
    generalize hL : e.syms.mergeSort leB = L at *
    rw [← hLL] at hown4
    have hsl2 : L.length ≤ 40 := by omega
    by_cases h0 : L.length = 0
    · have hv0 : v = .slice none 0 0 := HNIL.out (List.length_eq_zero_iff.1 (by omega))
      subst hv0
      have hL0 : L = [] := List.length_eq_zero_iff.1 h0
      have HR2 : Hid (symR e = ([], 0)) := Hid.mk (by rw [HR.out, hL0]; rfl)
      clear hown4 hgr4 hL hL0 h0 hLL HSO HO3 HNIL HR
      go_wp2_with fail
      refine wp_loop_rounds 1 ?_
      rw [rounds_succ]
      go_wp2_with fail
      go_ret2
      rw [HR2.out]
      exact ⟨_, rfl, own_nil _ _ _, HK4.out⟩
    · obtain ⟨g, cap, rfl, hcap, hbg, hlg, hcells⟩ := ownb_form hown4 (by omega)
      have HC := Hid.mk hcells
      clear hown4 hgr4 hL hLL HSO HO3 HNIL hcells
      go_wp2_with fail
      go_loopg [6, 7] L.length (fun kk v6 vi wr => ∃ j : Nat, j ≤ L.length ∧ kk = L.length - j ∧ vi = .int .i64 (j : Nat) ∧ Hid (wr.ownsRow w4.heap.size 9 1 v6 (dd (L.take j)).length (strs (dd (L.take j)))) ∧ Kp [] w4 wr)
      case atStart => exact ⟨0, Nat.zero_le _, by simp, rfl, Hid.mk (own_nil _ _ _), Kp.refl _ _⟩
      case round =>
        obtain ⟨j, hj, hkk, rfl, HO, hK⟩ := hrel
        by_cases hlt : j < L.length
        · have q1 : wr.cell? ⟨g, j, none⟩ = some (Value.string (bs L[j])) := (hK.cell (p := ⟨g, j, none⟩) hlg (by simp)).trans (HC.out j _ (by simp [strs, List.getElem?_eq_getElem hlt]))
          have hta := bs_toList L[j]
          have hszz := hK.size
          have HSZ := Hid.mk hszz
          have HK := Hid.mk hK
          have HDT := Hid.mk (dd_take hlt)
          have hdl := dd_take_len L j
          have HBG : Hid (((dd (L.take j)).length + 1 ≤ maxLen) ∧ ((dd (L.take j)).length + 1) * 16 ≤ 140737488355328) := Hid.mk (by unfold maxLen; omega)
          have hjn : (0 : Int) ≤ (j : Int) := by omega
          have hjl : (j : Int) < (L.length : Int) := by omega
          clear hszz hK
          by_cases hj0 : j = 0
          · subst hj0
            have HDZ : Hid (dd (L.take (0 + 1)) = dd (L.take 0) ++ [L[0]]) := Hid.mk (by rw [HDT.out]; rfl)
            have b0 : (((0 : Nat) : Int) == 0) = true := rfl
            go_upto_region 10 with fail
            go_quiet (fail)
            go_wp2_with (at_builtin; go_must (refine wpList_append_lies _ rfl (.tmp 37) (.tmp 42) 30 rfl w4.heap.size 9 i0 _ 1 16 Tryz.underlying30 HI.out.1 HI.out.2.1 HI.out.2.2.1 HI.out.2.2.2 rfl (Nat.succ_pos 0) u6 (dd (L.take 0)).length (strs (dd (L.take 0))) rfl (ownb_alloc (ownb_drewN HO.out _) _) ⟨_, 0, none⟩ 1 1 [.string (bs L[0])] rfl rfl (str_cells (heap_alloc_new _ _)) str_one Nat.one_pos HBG.out.1 HBG.out.2 (by have := HSZ.out; simp; omega) _ (by simp; rfl) ?_); intro g1 cap1 w6 hown6 hgr6 hat6 hlt6)
            go_roundg (L.length - (0 + 1))
            case measure => omega
            case rel =>
              have hgr' : ((wr.drewN nq).alloc (.cells #[.string (bs L[0])] 9)).grownBy w6 u6.ownBlock := hgr6
              refine ⟨0 + 1, by omega, rfl, rfl, Hid.mk ?_, Kp.grown ((HK.out.drewN _).alloc _) hgr' (fun b hb => .inr (ownb_base HO.out hb))⟩
              rw [HDZ.out, List.length_append, strs_app]
              exact hown6
          · have b1 : ((j : Int) == 0) = false := by rw [beq_eq_false_iff_ne]; omega
            have hlt1 : j - 1 < L.length := by omega
            have q2 : wr.cell? ⟨g, j - 1, none⟩ = some (Value.string (bs (L[j - 1]'hlt1))) := (HK.out.cell (p := ⟨g, j - 1, none⟩) hlg (by simp)).trans (HC.out (j - 1) _ (by simp [strs, List.getElem?_eq_getElem hlt1]))
            have htb := bs_toList (L[j - 1]'hlt1)
            have hw1 : IntKind.i64.wrap ((j : Int) - 1) = (j : Int) - 1 := IntWalk.i64_in _ (by omega)
            have hn1 : ((j : Int) - 1).toNat = j - 1 := by omega
            have hp1 : (1 : Int) ≤ (j : Int) := by omega
            have hp0 : (0 : Int) ≤ (j : Int) - 1 := by omega
            have hpl : (j : Int) - 1 < (L.length : Int) := by omega
            by_cases heq : L[j - 1]'hlt1 = L[j]
            · have HDZ : Hid (dd (L.take (j + 1)) = dd (L.take j)) := Hid.mk (by rw [HDT.out, dif_neg hj0, if_pos heq, List.append_nil])
              have hb : (L[j] != L[j - 1]'hlt1) = false := by simp [heq]
              have hb2 : (L[j] == L[j - 1]'hlt1) = true := by simp [heq]
              clear heq HDT
              generalize L[j - 1]'hlt1 = y at *
              generalize L[j] = x at *
              go_upto_region 10 with fail
              go_quiet (fail)
              go_wp2_with fail
              go_roundg (L.length - (j + 1))
              case measure => omega
              case rel => exact ⟨j + 1, by omega, rfl, by go_num, Hid.mk (by rw [HDZ.out]; exact HO.out), HK.out.drewN _⟩
            · have HDZ : Hid (dd (L.take (j + 1)) = dd (L.take j) ++ [L[j]]) := Hid.mk (by rw [HDT.out, dif_neg hj0, if_neg heq])
              have hb : (L[j] != L[j - 1]'hlt1) = true := by simpa using fun e => heq e.symm
              have hb2 : (L[j] == L[j - 1]'hlt1) = false := by simpa using fun e => heq e.symm
              clear heq HDT
              generalize L[j - 1]'hlt1 = y at *
              generalize L[j] = x at *
              go_upto_region 10 with fail
              go_quiet (fail)
              go_wp2_with (at_builtin; go_must (refine wpList_append_lies _ rfl (.tmp 37) (.tmp 42) 30 rfl w4.heap.size 9 i0 _ 1 16 Tryz.underlying30 HI.out.1 HI.out.2.1 HI.out.2.2.1 HI.out.2.2.2 rfl (Nat.succ_pos 0) u6 (dd (L.take j)).length (strs (dd (L.take j))) rfl (ownb_alloc (ownb_drewN HO.out _) _) ⟨_, 0, none⟩ 1 1 [.string (bs x)] rfl rfl (str_cells (heap_alloc_new _ _)) str_one Nat.one_pos HBG.out.1 HBG.out.2 (by have := HSZ.out; simp; omega) _ (by simp; rfl) ?_); intro g1 cap1 w6 hown6 hgr6 hat6 hlt6)
              go_roundg (L.length - (j + 1))
              case measure => omega
              case rel =>
                have hgr' : ((wr.drewN nq).alloc (.cells #[.string (bs x)] 9)).grownBy w6 u6.ownBlock := hgr6
                refine ⟨j + 1, by omega, rfl, by go_num, Hid.mk ?_, Kp.grown ((HK.out.drewN _).alloc _) hgr' (fun b hb => .inr (ownb_base HO.out hb))⟩
                rw [HDZ.out, List.length_append, strs_app]
                exact hown6
        · obtain rfl : j = L.length := by omega
          have hnlt : ¬ ((L.length : Int) < (L.length : Int)) := by omega
          have HOF := HO.out
          have hdl := dd_len L
          rw [List.take_length] at HOF
          have hs4 := HK4.out.size
          have HOO := Hid.mk (ownb_mono HOF hs4)
          have HKF := Hid.mk (HK4.out.trans hK)
          have hd40 : ¬ 40 < (dd L).length := by omega
          have hR := HR.out
          rw [if_neg hd40] at hR
          have HR2 := Hid.mk hR
          have hv6 : ∃ p cc, u6 = .slice p (dd L).length cc := by
            rcases HOF.2 with ⟨rfl, h2⟩ | ⟨g', cap', cur', rfl, _⟩
            · exact ⟨Option.none, 0, by rw [h2]⟩
            · exact ⟨_, _, rfl⟩
          obtain ⟨p6, c6, rfl⟩ := hv6
          have hd40' : ¬ (40 : Int) < ((dd L).length : Int) := by omega
          clear HOF hR HO hs4 hK
          go_wp2_with fail
          go_ret2
          rw [HR2.out]
          exact ⟨_, rfl, HOO.out, HKF.out⟩
  · have hv2 : (verdict e != 0) = true := by simpa using hv
    have HR : Hid (symR e = ([], verdict e)) := Hid.mk (by unfold symR; rw [if_neg hv])
    have HK := Hid.mk (HB.out _ (Kp.refl _ _)).1
    generalize verdict e = k at *
    clear hv he hM hsa hwa hm
    go_enter Tryz.func9, Tryz.ntmps9
    go_wp2_with fail
    refine (HV.out _ HK.out).mono ?_
    rintro en w2 ⟨rfl, hk2⟩
    have HZ := Hid.mk (HB.out _ hk2).2.2
    clear hk2
    go_wp2_with fail
    go_ret2
    rw [HR.out]
    exact ⟨_, rfl, own_nil _ _ _, HZ.out⟩
end Go.Proofs.YtgdnhlckodhhgaaGreat

/-
  Two lists of texts that are one are the same, by the reference.
-/
namespace Go.Proofs.YtgdnhlckodhhgaaGreat
open Go.RowKit
set_option linter.unusedVariables false
set_option linter.unusedSimpArgs false
theorem bytesLess_self (r : List UInt8) : Op.bytesLess r r = false := by
  induction r with
  | nil => rfl
  | cons a r ih =>
    have h : ¬ a < a := UInt8.lt_irrefl a
    simp [Op.bytesLess, ih, h]
/-- A slice that has a list. -/
def RdL (w : World) (v : Value) (R : List Bs) : Prop := ∃ p c, v = .slice p R.length c ∧ (0 < R.length → ∃ g, p = some ⟨g, 0, none⟩ ∧ g < w.heap.size ∧ ∀ j, (h : j < R.length) → w.cell? ⟨g, j, none⟩ = some (.string (bs R[j])))
theorem RdL.of_own {w : World} {base : Nat} {v : Value} {R : List Bs} (h : w.ownsRow base 9 1 v R.length (strs R)) : RdL w v R := by
  by_cases h0 : 0 < R.length
  · obtain ⟨g, cap, rfl, hc, hb, hg, hcells⟩ := ownb_form h h0
    exact ⟨_, cap, rfl, fun _ => ⟨g, rfl, hg, fun j hj => hcells j _ (by simp [strs, List.getElem?_eq_getElem hj])⟩⟩
  · rcases h.2 with ⟨rfl, h2⟩ | ⟨g', cap', cur', rfl, _⟩
    · exact ⟨Option.none, 0, by rw [h2], fun h => absurd h h0⟩
    · exact ⟨_, _, rfl, fun h => absurd h h0⟩
theorem RdL.kp {w w1 : World} {v : Value} {R : List Bs} (h : RdL w v R) (k : Kp [] w w1) : RdL w1 v R := by
  obtain ⟨p, c, rfl, h1⟩ := h
  refine ⟨p, c, rfl, fun hp => ?_⟩
  obtain ⟨g, rfl, hg, hc⟩ := h1 hp
  exact ⟨g, rfl, Nat.lt_of_lt_of_le hg k.size, fun j hj => (k.cell (p := ⟨g, j, none⟩) hg (by simp)).trans (hc j hj)⟩
set_option maxRecDepth 100000 in
set_option maxHeartbeats 4000000 in
theorem Order_calls {R : List Bs} {v1 v2 : Value} (w : World) (h1 : RdL w v1 R) (h2 : RdL w v2 R) (hl : R.length ≤ 1000000) : Calls Tryz.prog 22 #[v1, v2] w fun en w' => en = .returned (.int .i64 0) ∧ Kp [] w w' := by
  obtain ⟨p1, c1, rfl, h1⟩ := h1
  obtain ⟨p2, c2, rfl, h2⟩ := h2
  by_cases h0 : R.length = 0
  · rw [h0]
    clear h1 h2 h0
    go_enter Tryz.func22, Tryz.ntmps22
    go_wp2_with fail
    refine wp_loop_rounds 1 ?_
    rw [rounds_succ]
    go_wp2_with fail
    go_ret
    exact ⟨rfl, Kp.refl _ _⟩
  · obtain ⟨g1, rfl, hg1, hc1⟩ := h1 (by omega)
    obtain ⟨g2, rfl, hg2, hc2⟩ := h2 (by omega)
    have HC1 := Hid.mk hc1
    have HC2 := Hid.mk hc2
    clear h1 h2 hc1 hc2
    go_enter Tryz.func22, Tryz.ntmps22
    go_wp2_with fail
    go_loopg [5] R.length (fun kk v wr => ∃ j : Nat, j ≤ R.length ∧ kk = R.length - j ∧ v = .int .i64 (j : Nat) ∧ Kp [] w wr)
    case atStart => exact ⟨0, Nat.zero_le _, by simp, rfl, Kp.refl _ _⟩
    case round =>
      obtain ⟨j, hj, hkk, rfl, hK⟩ := hrel
      by_cases hlt : j < R.length
      · have q1 : wr.cell? ⟨g1, j, none⟩ = some (Value.string (bs R[j])) := (hK.cell (p := ⟨g1, j, none⟩) hg1 (by simp)).trans (HC1.out j hlt)
        have q2 : wr.cell? ⟨g2, j, none⟩ = some (Value.string (bs R[j])) := (hK.cell (p := ⟨g2, j, none⟩) hg2 (by simp)).trans (HC2.out j hlt)
        have hta := bs_toList R[j]
        have hbl := bytesLess_self R[j]
        have HK := Hid.mk hK
        have hjn : (0 : Int) ≤ (j : Int) := by omega
        have hjl : (j : Int) < (R.length : Int) := by omega
        clear hK
        generalize R[j] = x at *
        go_upto_region 4 with fail
        go_quiet (fail)
        go_upto_region 6 with fail
        go_quiet (fail)
        go_wp2_with fail
        go_roundg (R.length - (j + 1))
        case measure => omega
        case rel => exact ⟨j + 1, by omega, rfl, by go_num, HK.out.drewN _⟩
      · obtain rfl : j = R.length := by omega
        have hnlt : ¬ ((R.length : Int) < (R.length : Int)) := by omega
        go_wp2_with fail
        go_ret
        exact ⟨rfl, hK⟩
set_option maxRecDepth 100000 in
set_option maxHeartbeats 4000000 in
theorem SameL_calls {R : List Bs} {v1 v2 : Value} (w : World) (h1 : RdL w v1 R) (h2 : RdL w v2 R) (hl : R.length ≤ 1000000) : Calls Tryz.prog 10 #[v1, v2] w fun en w' => en = .returned (.bool true) ∧ Kp [] w w' := by
  have HO := Hid.mk (Order_calls w h1 h2 hl)
  clear h1 h2
  go_enter Tryz.func10, Tryz.ntmps10
  go_wp2_with fail
  refine HO.out.mono ?_
  rintro en w2 ⟨rfl, hk2⟩
  have HZ := Hid.mk hk2
  clear hk2
  go_wp2_with fail
  go_ret
  exact ⟨rfl, HZ.out⟩
end Go.Proofs.YtgdnhlckodhhgaaGreat
