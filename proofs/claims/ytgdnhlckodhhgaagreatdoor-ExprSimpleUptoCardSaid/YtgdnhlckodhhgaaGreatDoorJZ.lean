/-
  Plain: the symbols of an expression, as they come; sorted, each once.
-/
import Derived.Test.YtgdnhlckodhhgaaGreatDoorJQ
import Derived.Sort.KeysCollected
import Derived.Test.YtgdnhlckodhhgaaGreatDoorJH8
import Derived.Test.YtgdnhlckodhhgaaGreatDoorJI
import Derived.Test.YtgdnhlckodhhgaaGreatDoorJC
import Derived.Test.YtgdnhlckodhhgaaGreatDoorJK
namespace Go.Proofs.YtgdnhlckodhhgaaGreatDoor
set_option linter.unusedVariables false
set_option linter.unusedSimpArgs false
mutual
def E.syms : E → List Bs | .mk op s l => (if op = 0 then [s] else []) ++ symss l
def symss : List E → List Bs | [] => [] | e :: l => e.syms ++ symss l
end
theorem E.syms_eq (e : E) : e.syms = (if e.op = 0 then [e.s] else []) ++ symss e.l := by cases e; rw [E.syms]; rfl
theorem symss_append (l m : List E) : symss (l ++ m) = symss l ++ symss m := by
  induction l with
  | nil => rfl
  | cons a l ih => simp [symss, ih]
theorem symss_len (l : List E) (n : Nat) (h : ∀ x, x ∈ l → x.syms.length ≤ x.size) : (symss l).length ≤ sizes l := by
  induction l with
  | nil => simp [symss]
  | cons a l ih =>
    have h1 := h a (by simp)
    have h2 := ih (fun x hx => h x (by simp [hx]))
    simp only [symss, sizes, List.length_append]
    omega
theorem syms_len : ∀ (n : Nat) (e : E), e.size ≤ n → e.syms.length ≤ e.size := by
  intro n
  induction n with
  | zero => intro e he; have := size_pos e; omega
  | succ n ih =>
    intro e he
    have h1 := E.size_eq e
    have h2 := symss_len e.l 0 (fun x hx => ih x (by have := size_mem hx; omega))
    rw [E.syms_eq]
    split <;> simp <;> omega
/-- Each of its neighbours once. -/
def ddF (p : Bs) : List Bs → List Bs
  | [] => []
  | b :: l => if b = p then ddF b l else b :: ddF b l
def dd : List Bs → List Bs
  | [] => []
  | a :: l => a :: ddF a l
theorem ddF_snoc (l : List Bs) : ∀ (p x : Bs), ddF p (l ++ [x]) = ddF p l ++ (if l.getLastD p = x then [] else [x]) := by
  induction l with
  | nil =>
    intro p x
    show (if x = p then [] else [x]) = [] ++ (if p = x then [] else [x])
    by_cases h : x = p
    · rw [if_pos h, if_pos h.symm]; rfl
    · rw [if_neg h, if_neg (fun (e : p = x) => h e.symm)]; rfl
  | cons a l ih =>
    intro p x
    simp only [List.cons_append, ddF]
    have e : (a :: l).getLastD p = l.getLastD a := by cases l <;> rfl
    rw [e, ih a x]
    split <;> simp
theorem dd_snoc (l : List Bs) (x : Bs) (h : l ≠ []) : dd (l ++ [x]) = dd l ++ (if l.getLastD [] = x then [] else [x]) := by
  cases l with
  | nil => exact absurd rfl h
  | cons a l =>
    simp only [List.cons_append, dd]
    have e : (a :: l).getLastD [] = l.getLastD a := by cases l <;> rfl
    rw [e, ddF_snoc]
theorem le_t {a b c : Bs} (h1 : a ≤ b) (h2 : b ≤ c) : a ≤ c := List.le_trans h1 h2
theorem le_a {a b : Bs} (h1 : a ≤ b) (h2 : b ≤ a) : a = b := List.le_antisymm h1 h2
theorem ddF_props (l : List Bs) : ∀ p, (∀ x, x ∈ l → p ≤ x) → l.Pairwise (· ≤ ·) → (∀ x, x ∈ ddF p l → p ≤ x ∧ p ≠ x) ∧ (ddF p l).Pairwise (fun a b => a ≤ b ∧ a ≠ b) ∧ ∀ x, x ∈ p :: ddF p l ↔ x ∈ p :: l := by
  induction l with
  | nil => intro p _ _; simp [ddF]
  | cons b l ih =>
    intro p h1 h2
    have hb := h1 b (by simp)
    rw [List.pairwise_cons] at h2
    obtain ⟨i1, i2, i3⟩ := ih b h2.1 h2.2
    simp only [ddF]
    by_cases hbp : b = p
    · subst hbp
      rw [if_pos rfl]
      exact ⟨i1, i2, fun x => by rw [i3]; simp⟩
    · rw [if_neg hbp]
      have key : ∀ x, x ∈ b :: ddF b l → p ≤ x ∧ p ≠ x := fun x hx => by
        rcases List.mem_cons.1 hx with rfl | hx
        · exact ⟨hb, fun e => hbp e.symm⟩
        · have h3 := i1 x hx
          exact ⟨le_t hb h3.1, fun e => by
            subst e
            exact hbp (le_a h3.1 hb)⟩
      refine ⟨key, ?_, fun x => ?_⟩
      · rw [List.pairwise_cons]
        exact ⟨fun x hx => ⟨(i1 x hx).1, (i1 x hx).2⟩, i2⟩
      · rw [List.mem_cons, i3, List.mem_cons (b := p) (l := b :: l)]
theorem dd_props (l : List Bs) (h : l.Pairwise (· ≤ ·)) : (dd l).Pairwise (fun a b => a ≤ b ∧ a ≠ b) ∧ ∀ x, x ∈ dd l ↔ x ∈ l := by
  cases l with
  | nil => simp [dd]
  | cons a l =>
    rw [List.pairwise_cons] at h
    obtain ⟨i1, i2, i3⟩ := ddF_props l a h.1 h.2
    refine ⟨?_, i3⟩
    simp only [dd, List.pairwise_cons]
    exact ⟨i1, i2⟩
theorem leB_trans : ∀ a b c : List UInt8, leB a b = true → leB b c = true → leB a c = true := fun a b c h1 h2 => by simp only [leB, decide_eq_true_eq] at *; exact List.le_trans h1 h2
theorem leB_total : ∀ a b : List UInt8, (leB a b || leB b a) = true := fun a b => by simp only [leB, Bool.or_eq_true, decide_eq_true_eq]; exact List.le_total a b
theorem sort_pair (l : List Bs) : (l.mergeSort leB).Pairwise (· ≤ ·) := (List.pairwise_mergeSort leB_trans leB_total l).imp (fun h => by simpa [leB] using h)
/-- What is collected, each once, and sorted, is what is sorted, each once. -/
theorem sorted_same {keys l : List Bs} (hn : keys.Nodup) (hm : ∀ s, s ∈ keys ↔ s ∈ l) : keys.mergeSort leB = dd (l.mergeSort leB) := by
  obtain ⟨h1, h2⟩ := dd_props _ (sort_pair l)
  have hp1 := List.mergeSort_perm keys leB
  have hnd : (dd (l.mergeSort leB)).Nodup := h1.imp (fun h => h.2)
  have hperm : (keys.mergeSort leB).Perm (dd (l.mergeSort leB)) := by
    refine (List.perm_ext_iff_of_nodup (hp1.nodup_iff.2 hn) hnd).2 (fun x => ?_)
    rw [hp1.mem_iff, hm, h2, (List.mergeSort_perm l leB).mem_iff]
  exact hperm.eq_of_pairwise (le := (· ≤ ·)) (fun a b _ _ h3 h4 => le_a h3 h4) (sort_pair keys) (h1.imp (fun h => h.1))
theorem dd_len (l : List Bs) : (dd l).length ≤ l.length := by
  have : ∀ (l : List Bs) p, (ddF p l).length ≤ l.length := by
    intro l
    induction l with
    | nil => intro p; simp [ddF]
    | cons a l ih => intro p; simp only [ddF]; have := ih a; split <;> simp <;> omega
  cases l with
  | nil => simp [dd]
  | cons a l => simp only [dd, List.length_cons]; have := this l a; omega
end Go.Proofs.YtgdnhlckodhhgaaGreatDoor

/-
  The reference's list of an expression's symbols, as they come.
-/
namespace Go.Proofs.YtgdnhlckodhhgaaGreatDoor
open Go.RowKit
set_option linter.unusedVariables false
set_option linter.unusedSimpArgs false
section
variable {w w1 : World} {base base' size n : Nat} {e : TypeId} {v : Value} {xs : List Value}
theorem ownb_alloc (h : w.ownsRow base e size v n xs) (o : Obj) : (w.alloc o).ownsRow base e size v n xs := by
  obtain ⟨h1, h2⟩ := h
  refine ⟨h1, ?_⟩
  rcases h2 with h2 | ⟨g, cap, cur, h2, h0, h3, r⟩
  · exact .inl h2
  · exact .inr ⟨g, cap, cur, h2, h0, (Below.heap_alloc _ _ _ (Array.getElem?_eq_some_iff.1 h3).1).trans h3, r⟩
theorem ownb_keep (h : w.ownsRow base e size v n xs) (k : Kp [] w w1) : w1.ownsRow base e size v n xs := by
  obtain ⟨h1, h2⟩ := h
  refine ⟨h1, ?_⟩
  rcases h2 with h2 | ⟨g, cap, cur, h2, h0, h3, r⟩
  · exact .inl h2
  · exact .inr ⟨g, cap, cur, h2, h0, (k.block g (Array.getElem?_eq_some_iff.1 h3).1 (by simp)).trans h3, r⟩
theorem ownb_mono (h : w.ownsRow base e size v n xs) (hb : base' ≤ base) : w.ownsRow base' e size v n xs := by
  obtain ⟨h1, h2⟩ := h
  refine ⟨h1, ?_⟩
  rcases h2 with h2 | ⟨g, cap, cur, h2, h0, r⟩
  · exact .inl h2
  · exact .inr ⟨g, cap, cur, h2, by omega, r⟩
theorem ownb_base (h : w.ownsRow base e size v n xs) {x : Nat} (hx : v.ownBlock = some x) : base ≤ x := by
  obtain ⟨h1, h2⟩ := h
  rcases h2 with ⟨rfl, _⟩ | ⟨g, cap, cur, rfl, h0, r⟩
  · cases hx
  · simp only [Value.ownBlock, Option.some.injEq] at hx
    omega
/-- A row of at least one element lies somewhere. -/
theorem ownb_form (h : w.ownsRow base e 1 v n xs) (hn : 0 < n) : ∃ g cap, v = .slice (some ⟨g, 0, none⟩) n cap ∧ n ≤ cap ∧ base ≤ g ∧ g < w.heap.size ∧ ∀ j u, xs[j]? = some u → w.cell? ⟨g, j, none⟩ = some u := by
  obtain ⟨h1, h2⟩ := h
  rcases h2 with ⟨rfl, h2⟩ | ⟨g, cap, cur, rfl, h0, h3, r⟩
  · subst h2; simp at h1; omega
  · have hsl : Sl w (fun _ => none) e 1 g n cap xs := ⟨⟨h1, .inr ⟨g, cap, cur, rfl, Nat.zero_le _, h3, r⟩⟩, rfl⟩
    obtain ⟨_, _, _, hc, _⟩ := hsl.cells
    exact ⟨g, cap, rfl, hc, h0, hsl.lt, fun j u hu => hsl.cell hu⟩
end
/-- Nothing is appended. -/
theorem run_app_nil {P : Program} {w : World} {base : Nat} {t ty e : TypeId} {i : TypeInfo} {size n : Nat} {v : Value} {xs : List Value} (ht : P.underlying t = some (.slice e)) (hi : P.info? e = some i) (h : w.ownsRow base e size v n xs) :
    (Builtin.append_ #[t, t] ty #[v, .slice none 0 0]).run P w = .ok v w := by
  rcases h.2 with ⟨rfl, rfl⟩ | ⟨g, cap, cur, rfl, _, _, hc, _⟩
  · simp [Builtin.append_, run_underlying ht, sizeOf, typeInfo, hi, Builtin.lenOf, Builtin.firstCells]
  · simp [Builtin.append_, run_underlying ht, sizeOf, typeInfo, hi, Builtin.lenOf, Builtin.firstCells, hc, storeCells]
theorem wpList_app_nil {P : Program} (w : World) {ops : Array Oper} {rest : List Oper} {o : Oper} {a : Act} {Q : Exit → Act → World → Prop} (hgd : o.guard = none) (s x : Operand) (t : TypeId)
    (ho : o.op = .call { callee := .builtin .append, args := #[s, x], argTypes := #[t, t] }) (base : Nat) (e : TypeId) (i : TypeInfo) (size n : Nat) (ht : P.underlying t = some (.slice e)) (hi : P.info? e = some i)
    (v : Value) (xs : List Value) (hs : a.eval s = v) (hown : w.ownsRow base e size v n xs) (hx : a.eval x = .slice none 0 0) (h : wpList P ops Q rest (a.put o.dst v) w) : wpList P ops Q (o :: rest) a w :=
  wpList_plain hgd fun _ hK => by
    have hrun := run_app_nil (ty := o.type) ht hi hown
    unfold Oper.wp execOp
    simp only [ho, resolve, invoke, builtin, Sem.run_bind, Sem.run_pure, Result.andThen_ok, List.map_toArray, List.map_cons, List.map_nil, hs, hx, hrun]
    exact hK _ _ h
theorem add_row (g j : Nat) : (⟨g, 0, none⟩ : Addr).add j = ⟨g, j, none⟩ := by unfold Addr.add; split <;> simp_all
/-- How the list ends. -/
def NmEnd (w : World) (ss : List Bs) (en : Ending) (w' : World) : Prop := ∃ v, en = .returned v ∧ w'.ownsRow w.heap.size 9 1 v ss.length (strs ss) ∧ (ss = [] → v = .slice none 0 0) ∧ Kp [] w w'
theorem strs_app (a b : List Bs) : strs (a ++ b) = strs a ++ strs b := by simp [strs]
theorem strs_len (a : List Bs) : (strs a).length = a.length := by simp [strs]
theorem strs_cell {ss : List Bs} : ∀ u ∈ strs ss, u.oneCell' = true := by
  intro u hu
  simp only [strs, List.mem_map] at hu
  obtain ⟨r, _, rfl⟩ := hu
  rfl
/-- What has been collected. -/
def accS (e : E) (j : Nat) : List Bs := (if e.op = 0 then [e.s] else []) ++ symss (e.l.take j)
theorem accS_succ (e : E) (j : Nat) (h : j < e.l.length) : accS e (j + 1) = accS e j ++ e.l[j].syms := by
  unfold accS
  rw [← List.take_append_getElem h, symss_append, ← List.append_assoc]
  congr 1
  simp [symss]
theorem accS_all (e : E) : accS e e.l.length = e.syms := by unfold accS; rw [List.take_length, E.syms_eq]
theorem accS_len (e : E) (j : Nat) : (accS e j).length ≤ e.size := by
  have h1 := E.size_eq e
  have h2 := symss_len (e.l.take j) 0 (fun x hx => syms_len x.size x (Nat.le_refl _))
  have h3 : sizes (e.l.take j) ≤ sizes e.l := by
    conv => rhs; rw [← List.take_append_drop j e.l]
    rw [sizes_append]; omega
  unfold accS
  split <;> simp <;> omega
set_option maxRecDepth 100000 in
set_option maxHeartbeats 8000000 in
theorem named_calls (n : Nat) : ∀ (e : E) (A : Option Addr) (c : Nat) (w : World) (M : Heap), ExV M e A c → Mem w M → e.size ≤ n → n ≤ 1000000 →
    Calls Tryz.prog 47 #[.agg #[.int .i64 e.op, .string (bs e.s), .slice A e.l.length c]] w (NmEnd w e.syms) := by
  obtain ⟨i0, hi, hzz⟩ := Option.map_eq_some_iff.1 Tryz.infoS
  simp only [Prod.mk.injEq] at hzz
  obtain ⟨hz0, hz1, hz2⟩ := hzz
  have HI := Hid.mk (And.intro hi (And.intro hz0 (And.intro hz1 hz2)))
  clear hi hz0 hz1 hz2
  induction n with
  | zero => intro e A c w M _ _ he; have := size_pos e; omega
  | succ n ih =>
    intro e A c w M he hM hn hbig
    have hsz := E.size_eq e
    have hll := length_sizes e.l
    have HE := Hid.mk he
    have HIH := Hid.mk ih
    have HB := Hid.mk (fun w' (hk : Kp [] (w.alloc (.cells #[.int .i64 e.op, .string (bs e.s), .slice A e.l.length c] 24)) w') => And.intro ((hM.alloc _).kp hk (by simp)) (And.intro ((Box.new hM #[.int .i64 e.op, .string (bs e.s), .slice A e.l.length c] 24).same hk (by simp)).three.1 (((Kp.refl _ _).alloc _).trans hk)))
    have hs1 : (w.alloc (.cells #[.int .i64 e.op, .string (bs e.s), .slice A e.l.length c] 24)).heap.size = w.heap.size + 1 := by simp
    have HS1 := Hid.mk hs1
    clear he hM ih hs1
    go_enter Tryz.func47, Tryz.ntmps47
    go_upto_if 7 with fail
    generalize (w.alloc (.cells #[.int .i64 e.op, .string (bs e.s), .slice A e.l.length c] 24)) = w1 at *
    go_cut [3] from 7 to 12 (fun v3 wy => Hid (wy.ownsRow (w.heap.size + 1) 9 1 v3 (accS e 0).length (strs (accS e 0))) ∧ Hid (accS e 0 = [] → v3 = .slice none 0 0) ∧ Kp [] w1 wy)
    case first =>
      obtain ⟨hM1, ⟨p0, p1, p2⟩, hK1⟩ := HB.out _ (Kp.refl [] w1)
      clear hM1 hK1
      by_cases h0 : e.op = 0
      · have b0 : (e.op == 0) = true := by rw [h0]; rfl
        have HA : Hid (accS e 0 = [e.s]) := Hid.mk (by unfold accS; simp [h0, symss])
        clear h0
        go_wp2_with (at_builtin; go_must (refine wpList_append_lies _ rfl (.tmp 8) (.tmp 11) 25 rfl (w.heap.size + 1) 9 i0 _ 1 16 Tryz.underlying25 HI.out.1 HI.out.2.1 HI.out.2.2.1 HI.out.2.2.2 rfl (Nat.succ_pos 0) (.slice none 0 0) 0 [] rfl ⟨rfl, .inl ⟨rfl, rfl⟩⟩ ⟨_, 0, none⟩ 1 1 [.string (bs e.s)] rfl rfl (str_cells (heap_alloc_new _ _)) str_one Nat.one_pos (by unfold maxLen; omega) (by omega) (by rw [← HS1.out]; simp) _ (by simp; rfl) ?_); intro g1 cap1 w5 hown5 hgr5 hat5 hlt5)
        go_meet
        case rel =>
          have hgr' : (w1.alloc (.cells #[.string (bs e.s)] 9)).grownBy w5 (Value.slice none 0 0).ownBlock := hgr5
          rw [HA.out]
          refine ⟨Hid.mk ?_, Hid.mk (fun h => by cases h), ?_⟩
          · exact hown5
          · exact Kp.grown ((Kp.refl [] w1).alloc _) hgr' (fun x hx => by cases hx)
      · have b0 : (e.op == 0) = false := by simpa using h0
        have HA : Hid (accS e 0 = []) := Hid.mk (by unfold accS; simp [h0, symss])
        clear h0
        go_wp2_with fail
        go_meet
        case rel =>
          rw [HA.out]
          exact ⟨Hid.mk ⟨rfl, .inl ⟨rfl, rfl⟩⟩, Hid.mk (fun _ => rfl), Kp.refl _ _⟩
    case rest =>
      obtain ⟨hO0, hN0, hK0⟩ := hcut
      go_wp2_with fail
      go_loopg [3, 4] e.l.length (fun kk v3 v wr => ∃ j : Nat, j ≤ e.l.length ∧ kk = e.l.length - j ∧ v = .int .i64 (j : Nat) ∧ Hid (wr.ownsRow (w.heap.size + 1) 9 1 v3 (accS e j).length (strs (accS e j))) ∧ Hid (accS e j = [] → v3 = .slice none 0 0) ∧ Kp [] w1 wr)
      case atStart => exact ⟨0, Nat.zero_le _, by simp, rfl, hO0, hN0, hK0⟩
      case round =>
        obtain ⟨j, hj, hkk, rfl, HO, HN, hK⟩ := hrel
        clear hK0 hO0 hN0
        obtain ⟨hM1, ⟨p0, p1, p2⟩, hK1⟩ := HB.out _ hK
        by_cases hlt : j < e.l.length
        · obtain ⟨bb, o, rfl⟩ := HE.out.place (by omega)
          obtain ⟨A', c', k0, k1, k2, hx⟩ := HE.out.at_ j hlt
          have q0 := hM1.cell k0
          have q1 := hM1.cell k1
          have q2 := hM1.cell k2
          have hjs := size_mem (List.getElem_mem hlt)
          have hal := accS_len e (j + 1)
          have HAS := Hid.mk (accS_succ e j hlt)
          have HC := Hid.mk (HIH.out e.l[j] A' c' wr M hx hM1 (by omega) (by omega))
          have HH := Hid.mk (And.intro hK (And.intro hM1 hK1))
          rw [HAS.out, List.length_append] at hal
          generalize e.l[j].syms = ks at *
          have hks := hK.size
          have HKS := Hid.mk hks
          have hb0 : w.heap.size + 1 ≤ wr.heap.size := by rw [← HS1.out]; exact hks
          have HB0 := Hid.mk hb0
          clear k0 k1 k2 hx hM1 hK1 hK hks hb0
          go_wp2_with fail
          refine HC.out.mono ?_
          intro en w3 hnm
          obtain ⟨vk, rfl, hok, hnk, hk3⟩ := hnm
          have HOK := Hid.mk hok
          have HK3 := Hid.mk hk3
          have HO3 := Hid.mk (ownb_keep HO.out hk3)
          by_cases hke : ks = []
          · obtain rfl := hnk hke
            have HKE := Hid.mk hke
            clear hok hk3 hnk hke HC q0 q1 q2 p0 p1 p2
            go_wp2_with (at_builtin; go_must (refine wpList_app_nil _ rfl (.tmp 20) (.tmp 26) 25 rfl (w.heap.size + 1) 9 i0 1 (accS e j).length Tryz.underlying25 HI.out.1 u3 (strs (accS e j)) rfl HO3.out rfl ?_))
            go_roundg (e.l.length - (j + 1))
            case measure => omega
            case rel =>
              have e1 : accS e (j + 1) = accS e j := by rw [HAS.out, HKE.out, List.append_nil]
              exact ⟨j + 1, by omega, rfl, by go_num, Hid.mk (by rw [e1]; exact HO3.out), Hid.mk (by rw [e1]; exact HN.out), HH.out.1.trans HK3.out⟩
          · have hkp : 0 < ks.length := List.length_pos_iff.2 hke
            obtain ⟨gk, ck, rfl, hck, hbk, hgk, hcells⟩ := ownb_form hok hkp
            have HKE := Hid.mk hke
            have HCE := Hid.mk hcells
            have HBG : Hid (((accS e j).length + ks.length ≤ maxLen) ∧ ((accS e j).length + ks.length) * 16 ≤ 140737488355328) := Hid.mk (by unfold maxLen; omega)
            have HLE : Hid (w.heap.size + 1 ≤ w3.heap.size) := Hid.mk (Nat.le_trans HB0.out hk3.size)
            clear hok hk3 hnk hke hck hbk hgk hcells HC q0 q1 q2 p0 p1 p2
            go_wp2_with (at_builtin; go_must (refine wpList_append_lies _ rfl (.tmp 20) (.tmp 26) 25 rfl (w.heap.size + 1) 9 i0 _ 1 16 Tryz.underlying25 HI.out.1 HI.out.2.1 HI.out.2.2.1 HI.out.2.2.2 rfl (Nat.succ_pos 0) u3 (accS e j).length (strs (accS e j)) rfl HO3.out ⟨gk, 0, none⟩ ks.length ck (strs ks) rfl (by rw [strs_len, Nat.mul_one]) (fun j' u hu => by rw [add_row]; exact HCE.out j' u hu) strs_cell hkp HBG.out.1 HBG.out.2 HLE.out _ rfl ?_); intro g1 cap1 w5 hown5 hgr5 hat5 hlt5)
            go_roundg (e.l.length - (j + 1))
            case measure => omega
            case rel =>
              have hgr' : w3.grownBy w5 u3.ownBlock := hgr5
              refine ⟨j + 1, by omega, rfl, by go_num, Hid.mk ?_, Hid.mk (fun h => ?_), ?_⟩
              · rw [HAS.out, List.length_append, strs_app]
                exact hown5
              · rw [HAS.out] at h
                exact absurd (List.append_eq_nil_iff.1 h).2 HKE.out
              · exact Kp.grown (HH.out.1.trans HK3.out) hgr' (fun x hx => .inr (by rw [HS1.out]; exact ownb_base HO3.out hx))
        · obtain rfl : j = e.l.length := by omega
          have hnlt : ¬ ((e.l.length : Int) < (e.l.length : Int)) := by omega
          have HX := Hid.mk (accS_all e)
          have HKK := Hid.mk hK1
          clear hM1 hK1
          go_wp2_with fail
          go_ret
          have h1 := HO.out
          have h2 := HN.out
          rw [HX.out] at h1 h2
          exact ⟨u3, rfl, ownb_mono h1 (Nat.le_succ _), h2, HKK.out⟩
end Go.Proofs.YtgdnhlckodhhgaaGreatDoor

/-
  The symbols of an expression in a map: just these.
-/
namespace Go.Proofs.YtgdnhlckodhhgaaGreatDoor
open Go.RowKit
set_option linter.unusedVariables false
set_option linter.unusedSimpArgs false
/-- The map's keys are just those of a list. -/
def ES (X : List Bs) (es : Array MapEntry) (clock : Nat) : Prop := ∃ ks : List Bs, es.toList.map (·.key) = ks.map (fun s => Value.string (bs s)) ∧ ks.Nodup ∧ (∀ s, s ∈ ks ↔ s ∈ X) ∧ (∀ s, s ∈ ks → s.length ≤ 1099511627776) ∧ (∀ x ∈ es.toList, x.born < clock) ∧ (es.toList.map (·.born)).Nodup
theorem ES.key {X : List Bs} {es : Array MapEntry} {clock : Nat} (h : ES X es clock) {x : MapEntry} (hx : x ∈ es.toList) : ∃ s, s ∈ X ∧ s.length ≤ 1099511627776 ∧ x.key = .string (bs s) := by
  obtain ⟨ks, h1, _, h3, h4, _⟩ := h
  have : x.key ∈ es.toList.map (·.key) := List.mem_map_of_mem hx
  rw [h1, List.mem_map] at this
  obtain ⟨s, hs, he⟩ := this
  exact ⟨s, (h3 s).1 hs, h4 s hs, he.symm⟩
theorem run_updX {X : List Bs} {w : World} {b clock : Nat} {s : Bs} {es : Array MapEntry} (hb : w.heap[b]? = some (.map es clock)) (hg : ES X es clock) (hl : s.length ≤ 1099511627776) :
    ∃ es' clock', (Instr.mapUpdate 73 (.map (some b)) (.string (bs s)) (.bool true)).run Tryz.prog w = .ok () { w with heap := w.heap.setIfInBounds b (.map es' clock') } ∧ ES (X ++ [s]) es' clock' := by
  obtain ⟨l, hkl⟩ := skey s hl
  have hm : Tryz.prog.underlying 73 = some (.map 9 4) := Tryz.underlying73
  have hkeys : ∀ e ∈ es.toList, ∃ l, keyOf Tryz.prog 9 e.key = some l := fun e he => by
    obtain ⟨s', _, h2, h3⟩ := hg.key he
    rw [h3]; exact skey s' h2
  obtain ⟨ks, g1, g2, g3, g4, g5, g6⟩ := hg
  rcases Tryz.slaw.find w hkl es.toList hkeys with ⟨h1, h2⟩ | ⟨j, e, h1, h2, h3⟩
  · have hns : s ∉ ks := fun hs => by
      have : Value.string (bs s) ∈ ks.map (fun s => Value.string (bs s)) := List.mem_map_of_mem hs
      rw [← g1, List.mem_map] at this
      obtain ⟨x, hx, he⟩ := this
      exact h2 x hx he
    refine ⟨es.push { key := .string (bs s), val := .bool true, born := clock }, clock + 1, ?_, ks ++ [s], ?_, ?_, ?_, ?_, ?_, ?_⟩
    · simp only [Instr.mapUpdate, Sem.run_bind, run_underlying hm, MapKept.run_getObj_map hb, Tryz.slaw.check w _ hkl, h1, Result.andThen, MapKept.run_setObj_map _ hb]
    · simp only [Array.toList_push, List.map_append, g1, List.map_cons, List.map_nil]
    · rw [List.nodup_append]
      refine ⟨g2, by simp, fun a ha b hb2 => ?_⟩
      simp only [List.mem_singleton] at hb2
      subst hb2
      rintro rfl
      exact hns ha
    · intro x
      simp [g3]
    · intro x hx
      rcases List.mem_append.1 hx with hx | hx
      · exact g4 x hx
      · simp only [List.mem_singleton] at hx; subst hx; exact hl
    · intro x hx
      simp only [Array.toList_push, List.mem_append, List.mem_singleton] at hx
      rcases hx with hx | rfl
      · have := g5 x hx; omega
      · exact Nat.lt_succ_self _
    · simp only [Array.toList_push, List.map_append, List.map_cons, List.map_nil]
      rw [List.nodup_append]
      refine ⟨g6, by simp, fun a ha b hb2 hab => ?_⟩
      obtain ⟨x, hx, rfl⟩ := List.mem_map.1 ha
      have := g5 x hx
      simp only [List.mem_singleton] at hb2
      omega
  · have hst := Tryz.slaw.stays w hkl
    have hj : es[j]? = some e := by rw [← Array.getElem?_toList]; exact h2
    have hsk : s ∈ ks := by
      have : e.key ∈ es.toList.map (·.key) := List.mem_map_of_mem (List.mem_of_getElem? h2)
      rw [g1, h3, List.mem_map] at this
      obtain ⟨s', hs', he⟩ := this
      injection he with he
      rw [← bs_inj he]; exact hs'
    refine ⟨es.modify j (fun e => { e with key := .string (bs s), val := .bool true }), clock, ?_, ks, ?_, g2, ?_, g4, ?_, ?_⟩
    · simp only [Instr.mapUpdate, Sem.run_bind, run_underlying hm, MapKept.run_getObj_map hb, Tryz.slaw.check w _ hkl, h1, Result.andThen, hj, Option.map_some, Option.getD_some, h3, hst, MapKept.run_setObj_map _ hb]
    · rw [← g1]
      apply List.ext_getElem
      · simp
      · intro i h1' h2'
        simp only [Array.toList_modify, List.getElem_map, List.getElem_modify]
        split
        · rename_i hij
          subst hij
          have h4 : es.toList[j]'(by simpa using h2') = e := by
            have := h2
            rw [List.getElem?_eq_getElem (by simpa using h2')] at this
            exact Option.some.inj this
          rw [h4, h3]
        · rfl
    · intro x
      rw [g3, List.mem_append, List.mem_singleton]
      exact ⟨fun h => .inl h, fun h => h.elim id (fun h => by subst h; exact (g3 _).1 hsk)⟩
    · intro x hx
      simp only [Array.toList_modify] at hx
      obtain ⟨i, hi, hx⟩ := List.getElem_of_mem hx
      rw [List.getElem_modify] at hx
      have hi' : i < es.toList.length := by simpa using hi
      have hg5 := g5 _ (List.getElem_mem hi')
      split at hx
      · subst hx; exact hg5
      · subst hx; exact hg5
    · have e : ((es.modify j (fun e => { e with key := .string (bs s), val := .bool true })).toList.map (·.born)) = es.toList.map (·.born) := by
        apply List.ext_getElem
        · simp
        · intro i h1 h2
          simp only [Array.toList_modify, List.getElem_map, List.getElem_modify]
          split <;> rfl
      rw [e]; exact g6
def GMX (w : World) (M : Heap) (gm : Nat) (X : List Bs) : Prop := ∃ es clock, Blk w M gm (.map es clock) ∧ ES X es clock
set_option maxRecDepth 100000 in
set_option maxHeartbeats 4000000 in
theorem gatherX_calls {M : Heap} {gm : Nat} (n : Nat) : ∀ (e : E) (A : Option Addr) (c : Nat) (w : World) (X : List Bs), ExV M e A c → e.wide ≤ 1099511627776 → e.size ≤ n → n ≤ 1000000 → Mem w M → GMX w M gm X →
    Calls Tryz.prog 73 #[.agg #[.int .i64 e.op, .string (bs e.s), .slice A e.l.length c], .map (some gm)] w fun en w' => en = .returned (.tuple #[]) ∧ Mem w' M ∧ GMX w' M gm (X ++ e.syms) ∧ Kp [gm] w w' := by
  induction n with
  | zero => intro e A c w X _ _ he; have := size_pos e; omega
  | succ n ih =>
    intro e A c w X h hwd hn hbig hM hG
    obtain ⟨es, clock, hm, hg⟩ := hG
    have hgm := hm.lt
    have hsz := E.size_eq e
    have hll := length_sizes e.l
    have hwe := E.wide_eq e
    have hb0 := Box.new hM #[.int .i64 e.op, .string (bs e.s), .slice A e.l.length c] 24
    obtain ⟨⟨p0, p1, p2⟩, _, _, _⟩ := hb0.three
    have HE := Hid.mk h
    have HIH := Hid.mk ih
    have HWE := Hid.mk hwe
    clear hwe ih
    go_enter Tryz.func73, Tryz.ntmps73
    go_upto_if 8 with fail
    go_cut [] from 8 to 11 (fun wy => Mem wy M ∧ Box wy M w.heap.size #[.int .i64 e.op, .string (bs e.s), .slice A e.l.length c] 24 ∧ Hid (GMX wy M gm (X ++ accS e 0)) ∧ Kp [gm] w wy)
    case first =>
      by_cases h0 : e.op = 0
      · have b0 : (e.op == 0) = true := by rw [h0]; rfl
        have HA : Hid (accS e 0 = [e.s]) := Hid.mk (by unfold accS; simp [h0, symss])
        obtain ⟨es', clock', hupd, hg'⟩ := run_updX (w := w.alloc (.cells #[.int .i64 e.op, .string (bs e.s), .slice A e.l.length c] 24)) (s := e.s) (hm.alloc _).blk hg (by have := HWE.out; omega)
        have HH := Hid.mk (And.intro hm (And.intro hg' hb0))
        clear hm hg hb0 h h0 hg'
        go_wp2_with fail
        go_meet
        case rel =>
          obtain ⟨hm, hg', hb0⟩ := HH.out
          have hks : Kp [gm] (w.alloc (.cells #[.int .i64 e.op, .string (bs e.s), .slice A e.l.length c] 24)) { (w.alloc (.cells #[.int .i64 e.op, .string (bs e.s), .slice A e.l.length c] 24)) with heap := (w.alloc (.cells #[.int .i64 e.op, .string (bs e.s), .slice A e.l.length c] 24)).heap.setIfInBounds gm (.map es' clock') } := (Kp.refl [gm] _).setObj _ (.inl (by simp))
          refine ⟨(hM.alloc _).kp hks (by simpa using hm.out), hb0.same hks (by simp; omega), Hid.mk ⟨es', clock', ⟨?_, hm.out⟩, by rw [HA.out]; exact hg'⟩, ((Kp.refl [gm] w).alloc _).trans hks⟩
          show ((w.alloc _).heap.setIfInBounds gm _)[gm]? = _
          rw [Array.getElem?_setIfInBounds_self, if_pos (show gm < (w.alloc _).heap.size by simp; omega)]
      · have b0 : (e.op == 0) = false := by simpa using h0
        have HA : Hid (accS e 0 = []) := Hid.mk (by unfold accS; simp [h0, symss])
        clear h0
        go_wp2_with fail
        go_meet
        case rel => exact ⟨hM.alloc _, hb0, Hid.mk ⟨es, clock, hm.alloc _, by rw [HA.out, List.append_nil]; exact hg⟩, (Kp.refl _ _).alloc _⟩
    case rest =>
      obtain ⟨hM1, hb1, hG1, hK1⟩ := hcut
      clear p0 p1 p2 hm hg hb0 h
      obtain ⟨⟨p0, p1, p2⟩, _, _, _⟩ := hb1.three
      have HH := Hid.mk (And.intro hM1 (And.intro hb1 (And.intro hG1 hK1)))
      clear hM1 hb1 hG1 hK1
      go_wp2_with fail
      go_loopg [15] e.l.length (fun kk v wr => ∃ j : Nat, j ≤ e.l.length ∧ kk = e.l.length - j ∧ v = .int .i64 (j : Nat) ∧ Mem wr M ∧ Hid (GMX wr M gm (X ++ accS e j)) ∧ Kp [gm] w wr)
      case atStart => exact ⟨0, Nat.zero_le _, by simp, rfl, HH.out.1, HH.out.2.2.1, HH.out.2.2.2⟩
      case round =>
        clear HH p0 p1 p2
        obtain ⟨j, hj, hkk, rfl, hM', hG', hK'⟩ := hrel
        by_cases hlt : j < e.l.length
        · obtain ⟨bb, o, rfl⟩ := HE.out.place (by omega)
          obtain ⟨A', c', k0, k1, k2, hx⟩ := HE.out.at_ j hlt
          have q0 := hM'.cell k0
          have q1 := hM'.cell k1
          have q2 := hM'.cell k2
          have hjs := size_mem (List.getElem_mem hlt)
          have hjw := wide_mem (List.getElem_mem hlt)
          have hwe := HWE.out
          have HAS := Hid.mk (accS_succ e j hlt)
          have hw1 : e.l[j].wide ≤ 1099511627776 := by omega
          have HX := Hid.mk hx
          have HH := Hid.mk (And.intro hM' (And.intro hG' hK'))
          clear k0 k1 k2 hx hM' hG' hK' hwe
          go_wp2_with fail
          obtain ⟨es2, clock2, hm2, hg2⟩ := HH.out.2.1.out
          refine (HIH.out e.l[j] A' c' _ (X ++ accS e j) HX.out hw1 (by omega) (by omega) (HH.out.1.alloc _) ⟨es2, clock2, hm2.alloc _, hg2⟩).mono ?_
          rintro en w5 ⟨rfl, hM5, hG5, hk5⟩
          have HZ := Hid.mk (And.intro hM5 (And.intro hG5 ((HH.out.2.2.alloc _).trans hk5)))
          clear hM5 hG5 hk5 hm2 hg2
          go_wp2_with fail
          go_roundg (e.l.length - (j + 1))
          case measure => omega
          case rel => exact ⟨j + 1, by omega, rfl, by go_num, HZ.out.1, Hid.mk (by rw [HAS.out, ← List.append_assoc]; exact HZ.out.2.1), HZ.out.2.2⟩
        · obtain rfl : j = e.l.length := by omega
          have hnlt : ¬ ((e.l.length : Int) < (e.l.length : Int)) := by omega
          have hfin := hG'.out
          rw [accS_all] at hfin
          have HF := Hid.mk hfin
          clear hfin
          go_wp2_with fail
          go_end0
          exact ⟨rfl, hM', HF.out, hK'⟩
end Go.Proofs.YtgdnhlckodhhgaaGreatDoor
