/-
  A region that draws its order, whose first operations leave a world of a class and all come ahead of the rest: one walk, in the text's order.
-/
import Derived.Test.YtgdnhlckodhhgaaGreatDoorJA
import Derived.BigQuiet
import Derived.StillTail
import Derived.Test.YtgdnhlckodhhgaaGreatDoorJVG
import Derived.Test.YtgdnhlckodhhgaaGreatDoorJZ
namespace Go.Proofs.YtgdnhlckodhhgaaGreatDoor
open Go.RowKit
set_option linter.unusedVariables false
section
variable {P : Program} {ops : Array Oper} {md : Region.Mode} {C : World → Prop}
/-- Whatever order is picked of the head. -/
def headQ (P : Program) (md : Region.Mode) (ops : Array Oper) (C : World → Prop) (n : Nat) (L : Array Bool → Act → Prop) : Nat → Array Bool → Act → Prop
  | 0, ls, a => L ls a
  | f + 1, ls, a => Region.ready md ops ls ≠ [] ∧ ∀ i ∈ Region.ready md ops ls, i < n ∧ qOp P ops C i (headQ P md ops C n L f (ls.setIfInBounds i true)) a
theorem headQ_any {n g : Nat} {L : Array Bool → Act → Prop} {R : Exit → Act → World → Prop} (hL : ∀ ls a w, C w → L ls a → wpAny P md ops R g ls a w) (f : Nat) :
    ∀ (ls : Array Bool) (a : Act) (w : World), C w → headQ P md ops C n L f ls a → wpAny P md ops R (f + g) ls a w := by
  induction f with
  | zero => intro ls a w hw h; rw [Nat.zero_add]; exact hL _ _ _ hw h
  | succ f ih =>
    intro ls a w hw h
    rw [Nat.succ_add]
    exact ⟨fun h0 => absurd h0 h.1, fun i hi => wpOp_of_qOp hw (fun a' w' hw' h' => ih _ a' w' hw' h') (h.2 i hi).2⟩
theorem headQ_first {n i : Nat} {oi : Oper} {v : Value} {L : Array Bool → Act → Prop} (hi : ops[i]? = some oi) (hsel : ∀ (j : Nat) (o : Oper) cs b, ops[j]? = some o → o.op ≠ .select cs b)
    (hs : Region.sinkB md ops n = true) (hc : Region.chainB md ops n = true) (hn : n < ops.size) (hin : i < n) (hdone : ∀ ls a, L ls a → ∀ j ∈ Region.ready md ops ls, n ≤ j) (f : Nat) :
    ∀ (ls : Array Bool) (a : Act), HeadInv md ops n ls → (∀ j oj, ops[j]? = some oj → j ≠ i → ls.getD j true = false → (∀ e ∈ oj.after, Region.binds md e = true → e.on ≠ i) → oi.apart ops oj = true) →
      i ∈ Region.ready md ops ls → YieldsIn P ops C oi v a → headQ P md ops C n L f (ls.setIfInBounds i true) (a.put oi.dst v) → headQ P md ops C n L (f + 1) ls a := by
  induction f with
  | zero =>
    intro ls a inv _ hr hy H
    have hun := (mem_ready.1 hr).1
    refine ⟨fun h => (by rw [h] at hr; cases hr), fun j hj => ⟨Nat.lt_of_not_le fun hge => tail_waits hs hc hn inv _ i rfl hin hun j hge hj, ?_⟩⟩
    by_cases hji : j = i
    · subst hji; exact hy.qOp hi H
    · exact absurd (hdone _ _ H j (ready_mono hj hji)) (Nat.not_le_of_lt (Nat.lt_of_not_le fun hge => tail_waits hs hc hn inv _ i rfl hin hun j hge hj))
  | succ f ih =>
    intro ls a inv hfree hr hy H
    have hun := (mem_ready.1 hr).1
    refine ⟨fun h => (by rw [h] at hr; cases hr), fun j hj => ?_⟩
    have hjn : j < n := Nat.lt_of_not_le fun hge => tail_waits hs hc hn inv _ i rfl hin hun j hge hj
    refine ⟨hjn, ?_⟩
    by_cases hji : j = i
    · subst hji; exact hy.qOp hi H
    · obtain ⟨hjun, oj, hoj, hall⟩ := mem_ready.1 hj
      have hnot : ∀ e ∈ oj.after, Region.binds md e = true → e.on ≠ i := fun e he hb heq => by
        have h1 := hall e he hb
        rw [heq, getD_both hun] at h1
        cases h1
      have h2 := qOp_put hoj (hfree j oj hoj hji hjun hnot) (fun cs b => hsel i oi cs b hi) (fun cs b => hsel j oj cs b hoj) hy (H.2 j (ready_mono hj hji)).2
      refine qOp_mono (fun a' h3 => ih (ls.setIfInBounds j true) a' (inv.set hj hjn) (fun k ok hk hki hu hno => hfree k ok hk hki ?_ hno) (ready_mono hr (Ne.symm hji)) h3.1 ?_) h2
      · by_cases hjk : j = k
        · subst hjk; exact hjun
        · rw [getD_set_ne true hjk] at hu; exact hu
      · rw [Array.setIfInBounds_comm _ _ hji]
        exact h3.2
theorem headQ_lex {n g : Nat} {Lq : Act → Prop} (hsel : Region.noSelect ops = true) (hs : Region.sinkB md ops n = true) (hc : Region.chainB md ops n = true) (hn : n < ops.size) (l : List Oper) :
    ∀ (k : Nat) (ls : Array Bool) (a : Act), (∀ j, j < l.length → l[j]? = ops[k + j]?) → k + l.length = n → HeadInv md ops n ls → Region.lexHead md ops g l.length k ls = true → wpQuiet P ops C Lq l a →
    headQ P md ops C n (fun ls' a' => Region.seqB md ops g n ls' = true ∧ Lq a') l.length ls a := by
  induction l with
  | nil =>
    intro k ls a _ hk _ hB h
    have e : k = n := by simpa using hk
    subst e
    exact ⟨by simpa [Region.lexHead] using hB, h⟩
  | cons o l ih =>
    intro k ls a hl hk inv hB h
    have h0 : ops[k]? = some o := by simpa using (hl 0 (by simp)).symm
    simp only [List.length_cons, Region.lexHead, Bool.and_eq_true] at hB
    obtain ⟨⟨hr, hf⟩, hB'⟩ := hB
    have hkn : k < n := by simp only [List.length_cons] at hk; omega
    have hr' : k ∈ Region.ready md ops ls := by simpa using hr
    have hst : qOp P ops C k (wpQuiet P ops C Lq l) a := by unfold qOp; simp only [h0]; exact h
    obtain ⟨v, hy, hK⟩ := yieldsIn_of_qOp h0 hst
    exact headQ_first h0 (Region.noSelect_spec hsel) hs hc hn hkn (fun ls' a' hL => seqB_ready hL.1) l.length ls a inv (Region.free_spec h0 hf) hr' hy
      (ih (k + 1) _ _ (fun j hj => by have := hl (j + 1) (by simp; omega); simpa [Nat.add_assoc, Nat.add_comm 1 j] using this) (by simp only [List.length_cons] at hk; omega) (inv.set hr' hkn) hB' hK)
end
/-- The head in a class of worlds, then the rest, in whatever world of it. -/
theorem wp_region_cls_tail {P : Program} {τ : Type} (W : τ → World) (n : Nat) {id : Nat} {Q : Exit → Act → World → Prop} {a : Act} {w : World} {l : List Oper} (x0 : τ) (h0 : W x0 = w.drew)
    (hm : P.follows .mixedOrders = true) (hB : Region.lexTailB .any l.toArray n = true)
    (h : wpQuiet P l.toArray (fun w' => ∃ x, w' = W x) (fun a' => ∀ w', (∃ x, w' = W x) → wpList P l.toArray Q (l.drop n) a' w') (l.take n) a) : (Code.region id l.toArray true).wp P Q a w := by
  simp only [Region.lexTailB, Bool.and_eq_true, decide_eq_true_eq] at hB
  obtain ⟨⟨⟨⟨hsel, hn⟩, hs⟩, hc⟩, hlex⟩ := hB
  have hn' : n < l.length := by simpa using hn
  have htl : (l.take n).length = n := by simp; omega
  have hdl : (l.drop n).length = l.toArray.size - n := by simp
  have inv0 : HeadInv .any l.toArray n (Array.replicate l.toArray.size false) :=
    ⟨by simp, fun j oj _ hl => (by rw [getD_replicate_false] at hl; cases hl), fun t _ ht => getD_in (by simpa using ht) (getD_replicate_false _ _)⟩
  have H := headQ_lex (md := .any) (g := l.toArray.size - n) hsel hs hc hn (l.take n) 0 _ a (fun j hj => by
    have hj' : j < n := by rw [htl] at hj; exact hj
    simp [hj']) (by simpa using htl) inv0 (by rw [htl]; exact hlex) h
  refine wp_region_any hm ?_
  have := headQ_any (R := Q) (g := l.toArray.size - n) (fun ls a' w' hw hL => by
    have := wpAny_of_seq (md := .any) (Q' := Q) (l.drop n) n ls a' w' (fun j => by simp [List.getElem?_drop]) (by rw [hdl]; exact hL.1) (hL.2 w' hw)
    rwa [hdl] at this) _ _ _ w.drew ⟨x0, h0.symm⟩ H
  rw [htl, show n + (l.toArray.size - n) = l.toArray.size by omega] at this
  exact this
end Go.Proofs.YtgdnhlckodhhgaaGreatDoor

/-
  The reference's asker: words that lie in rows of the call's own; a word cut in two by a number's bits.
-/
namespace Go.Proofs.YtgdnhlckodhhgaaGreatDoor
open Go.RowKit
set_option linter.unusedVariables false
set_option linter.unusedSimpArgs false
theorem ownb_kp {w w1 : World} {base size n : Nat} {e : TypeId} {v : Value} {xs : List Value} {S : List Nat} (h : w.ownsRow base e size v n xs) (k : Kp S w w1) (hS : ∀ x ∈ S, x < base) : w1.ownsRow base e size v n xs := by
  obtain ⟨h1, h2⟩ := h
  refine ⟨h1, ?_⟩
  rcases h2 with h2 | ⟨g, cap, cur, h2, h0, h3, r⟩
  · exact .inl h2
  · exact .inr ⟨g, cap, cur, h2, h0, (k.block g (Array.getElem?_eq_some_iff.1 h3).1 (fun hx => by have := hS g hx; omega)).trans h3, r⟩
theorem RN.ext {M M' : Heap} {n0 gi n k : Nat} {e : E} (x : Ext n0 M M') (h : RN M gi n k e) : RN M' gi n k e := by
  induction h with
  | mk k op s l A c kj hk h0 h1 h2 hrow hkids hkj ih =>
    refine .mk k op s l A c kj hk (cellM_ext x h0) (cellM_ext x h1) (cellM_ext x h2) (fun j hj => ?_) ih hkj
    obtain ⟨bb, o, hA, hc⟩ := hrow j hj
    exact ⟨bb, o, hA, cellM_ext x hc⟩
theorem AsR.of {w : World} {M M' : Heap} {ga gm gi n cap : Nat} {V : Bs → Bool} (h : AsR w M ga gm gi n cap V) (h1 : M' ga = none) (h2 : M' gm = none) : AsR w M' ga gm gi n cap V := by
  obtain ⟨es, clock, hB, hm, hg, hne⟩ := h
  exact ⟨es, clock, ⟨hB.blk, h1⟩, ⟨hm.blk, h2⟩, hg, hne⟩
theorem AsR.no {w : World} {M : Heap} {ga gm gi n cap : Nat} {V : Bs → Bool} (h : AsR w M ga gm gi n cap V) : M ga = none ∧ M gm = none := by
  obtain ⟨es, clock, hB, hm, hg, hne⟩ := h
  exact ⟨hB.out, hm.out⟩
theorem Mem.ext {w : World} {M M' : Heap} {n0 : Nat} (h : Mem w M') (x : Ext n0 M M') : Mem w M := fun b o hb => h b o (x.1 b o hb)
/-- What is kept of memory while rows of one's own, from base on, stand besides. -/
theorem WvM.row {w : World} {M : Heap} {base : Nat} {v : Value} {u : List Bs} (hown : w.ownsRow base 9 1 v u.length (strs u)) (hM : Mem w M) (hMb : ∀ b, base ≤ b → M b = none) :
    ∃ A c M', v = .slice A u.length c ∧ u.length ≤ c ∧ Mem w M' ∧ Ext base M M' ∧ (∀ b, b < base → M' b = M b) ∧ WvM M' A u := by
  obtain ⟨h1, h2⟩ := hown
  rcases h2 with ⟨rfl, h2⟩ | ⟨g, cap, cur, rfl, h0, h3, h4, r⟩
  · have hu : u = [] := by simpa [strs] using h2
    subst hu
    exact ⟨none, 0, M, rfl, Nat.le_refl _, hM, Ext.refl _ _, fun _ _ => rfl, .inl ⟨rfl, rfl⟩⟩
  · have hsl : Sl w (fun _ => none) 9 1 g u.length cap (strs u) := ⟨⟨h1, .inr ⟨g, cap, cur, rfl, Nat.zero_le _, h3, h4, r⟩⟩, rfl⟩
    obtain ⟨cur', spare, hc1, hc2, hc3⟩ := hsl.cells
    refine ⟨some ⟨g, 0, none⟩, cap, M.put g (.cells cur' 9 (0, 0)), rfl, hc2, hM.put hc1, Ext.put h0 (hMb g h0), fun b hb => Heap.put_ne (by omega), .inr ⟨g, 0, rfl, fun j hj => ?_⟩⟩
    have hj2 : j < cur'.toList.length := by rw [hc3, List.length_append, strs_len]; omega
    have hj3 : j < cur'.size := by simpa using hj2
    have e1 : cur'[j] = .string (bs u[j]) := by
      have : cur'.toList[j]'hj2 = .string (bs u[j]) := by
        simp only [hc3]
        rw [List.getElem_append_left (by rw [strs_len]; exact hj)]
        simp [strs]
      rw [← this]; simp
    simp only [cellM, Heap.put_same, Nat.zero_add]
    rw [Array.getElem?_eq_getElem hj3, e1]
    rfl
/-- holds at a word that lies in a row of the call's own. -/
theorem RH.row {ga gm gi n cap L k : Nat} {V : Bs → Bool} {e : E} (hx : RH ga gm gi n cap V L k e) {M : Heap} (hrn : RN M gi n k e) {base : Nat} (hMb : ∀ b, base ≤ b → M b = none) (hga : ga < base) (hgm : gm < base) {u : List Bs} (hok : OkW L u) {v : Value} {w : World}
    (hown : w.ownsRow base 9 1 v u.length (strs u)) (hM : Mem w M) (hA : AsR w M ga gm gi n cap V) :
    Calls Tryz.prog 50 #[.pointer (some ⟨ga, 0, none⟩), .int .i64 (k : Nat), v] w (HR M ga gm gi n cap V w (rev e u)) := by
  obtain ⟨A, c, M', rfl, hc, hM', x, hb, hw⟩ := WvM.row hown hM hMb
  obtain ⟨n1, n2⟩ := hA.no
  refine (hx M' u A c w (hrn.ext x) hw hc hok hM' (hA.of (by rw [hb _ hga]; exact n1) (by rw [hb _ hgm]; exact n2))).mono ?_
  rintro en w' ⟨rfl, h1, h2, h3⟩
  exact ⟨rfl, h1.ext x, h2.of n1 n2, h3⟩
theorem cutR_len (m : Nat) (u : List Bs) (i : Nat) : (cutToR m u i).a.length + (cutToR m u i).b.length = i := by
  induction i with
  | zero => rfl
  | succ i ih =>
    simp only [cutToR, cutAddR]
    split <;> simp <;> omega
theorem cutR_one {m i : Nat} {c : Bs} {x : CutR} (h : (m >>> i) % 2 = 1) : cutAddR m i c x = ⟨x.a ++ [c], x.b, x.rs ++ [[]]⟩ := by rw [cutAddR, if_pos h]
theorem cutR_zero {m i : Nat} {c : Bs} {x : CutR} (h : ¬ (m >>> i) % 2 = 1) : cutAddR m i c x = ⟨x.a, x.b ++ [c], x.rs.dropLast ++ [x.rs.getLastD [] ++ [c]]⟩ := by rw [cutAddR, if_neg h]
end Go.Proofs.YtgdnhlckodhhgaaGreatDoor

/-
  The reference's asker: a word's symbols at the places whose bits are set, and those at the others (parted).
-/
namespace Go.Proofs.YtgdnhlckodhhgaaGreatDoor
open Go.RowKit
set_option linter.unusedVariables false
set_option linter.unusedSimpArgs false
theorem ownb_grown {w w1 : World} {base size n : Nat} {e : TypeId} {v : Value} {xs : List Value} {row : Option Nat} (h : w.ownsRow base e size v n xs) (k : w.grownBy w1 row) (hr : ∀ x, row = some x → v.ownBlock ≠ some x) : w1.ownsRow base e size v n xs := by
  obtain ⟨h1, h2⟩ := h
  refine ⟨h1, ?_⟩
  rcases h2 with h2 | ⟨g, cap, cur, h2, h0, h3, r⟩
  · exact .inl h2
  · refine .inr ⟨g, cap, cur, h2, h0, (k.block g (Array.getElem?_eq_some_iff.1 h3).1 (fun e => hr g e.symm (by rw [h2]; rfl))).trans h3, r⟩
theorem ownb_lt {w : World} {base size n : Nat} {e : TypeId} {v : Value} {xs : List Value} (h : w.ownsRow base e size v n xs) {x : Nat} (hx : v.ownBlock = some x) : x < w.heap.size := by
  obtain ⟨h1, h2⟩ := h
  rcases h2 with ⟨rfl, _⟩ | ⟨g, cap, cur, rfl, h0, h3, r⟩
  · cases hx
  · simp only [Value.ownBlock, Option.some.injEq] at hx
    subst hx
    exact (Array.getElem?_eq_some_iff.1 h3).1
/-- Two rows of one's own, apart. -/
structure Pt (w0 : World) (M : Heap) (v1 v2 : Value) (a b : List Bs) (w : World) : Prop where
  o1 : w.ownsRow w0.heap.size 9 1 v1 a.length (strs a)
  o2 : w.ownsRow w0.heap.size 9 1 v2 b.length (strs b)
  ap : ∀ x, v1.ownBlock = some x → v2.ownBlock ≠ some x
  kp : Kp [] w0 w
  m0 : Mem w0 M
theorem Pt.mem {w0 w : World} {M : Heap} {v1 v2 : Value} {a b : List Bs} (h : Pt w0 M v1 v2 a b w) : Mem w M := h.m0.kp h.kp (by simp)
/-- What parted leaves. -/
def PtEnd (w : World) (a b : List Bs) (en : Ending) (w' : World) : Prop := ∃ v1 v2, en = .returned (.tuple #[v1, v2]) ∧ w'.ownsRow w.heap.size 9 1 v1 a.length (strs a) ∧ w'.ownsRow w.heap.size 9 1 v2 b.length (strs b) ∧ Kp [] w w'
theorem Pt.swap {w0 w : World} {M : Heap} {v1 v2 : Value} {a b : List Bs} (h : Pt w0 M v1 v2 a b w) : Pt w0 M v2 v1 b a w := ⟨h.o2, h.o1, fun x h1 h2 => h.ap x h2 h1, h.kp, h.m0⟩
theorem Pt.step {w0 w w5 : World} {M : Heap} {v1 v2 : Value} {a b : List Bs} {x : Bs} {o : Obj} {g cap : Nat} (h : Pt w0 M v1 v2 a b w) (ho : w5.ownsRow w0.heap.size 9 1 (.slice (some ⟨g, 0, none⟩) (a.length + 1) cap) (a.length + 1) (strs a ++ [.string (bs x)]))
    (hg : (w.alloc o).grownBy w5 v1.ownBlock) (hat : v1.ownBlock = some g ∨ g = (w.alloc o).heap.size) : Pt w0 M (.slice (some ⟨g, 0, none⟩) (a.length + 1) cap) v2 (a ++ [x]) b w5 := by
  have hbase : ∀ y, v1.ownBlock = some y → w0.heap.size ≤ y := fun y hy => ownb_base h.o1 hy
  have hsz := h.kp.size
  have hk : Kp [] w0 w5 := Kp.grown (h.kp.alloc o) hg (fun y hy => .inr (hbase y hy))
  refine ⟨?_, ?_, ?_, hk, h.m0⟩
  · rw [List.length_append, List.length_singleton, strs_app]; exact ho
  · exact ownb_grown (ownb_alloc h.o2 o) hg (fun y hy => h.ap y hy)
  · intro y hy h2
    simp only [Value.ownBlock, Option.some.injEq] at hy
    subst hy
    rcases hat with hat | hat
    · exact h.ap _ hat h2
    · have := ownb_lt h.o2 h2
      simp at hat; omega
set_option maxRecDepth 100000 in
set_option maxHeartbeats 2000000 in
theorem parted_calls {M : Heap} {u : List Bs} {A : Option Addr} {c m : Nat} (hws : WvM M A u) (hc : u.length ≤ c) (hu : u.length ≤ 20) (hm : m < 1099511627776) (w : World) (hM : Mem w M) :
    Calls Tryz.prog 180 #[.slice A u.length c, .int .i64 (m : Nat)] w (PtEnd w (cutToR m u u.length).a (cutToR m u u.length).b) := by
  obtain ⟨i0, hi, hzz⟩ := Option.map_eq_some_iff.1 Tryz.infoS
  simp only [Prod.mk.injEq] at hzz
  obtain ⟨hz0, hz1, hz2⟩ := hzz
  have HI := Hid.mk (And.intro hi (And.intro hz0 (And.intro hz1 hz2)))
  clear hi hz0 hz1 hz2
  have HW := Hid.mk hws.ws
  have hM0 := Hid.mk hM
  clear hws hM
  go_enter Tryz.func180, Tryz.ntmps180
  go_wp2_with fail
  go_loopg [6, 7, 8] u.length (fun kk v6 v7 v wy => ∃ i : Nat, i ≤ u.length ∧ kk = u.length - i ∧ v = .int .i64 (i : Nat) ∧ Hid (Pt w M v6 v7 (cutToR m u i).a (cutToR m u i).b wy))
  case atStart => exact ⟨0, Nat.zero_le _, by simp, rfl, Hid.mk ⟨⟨rfl, .inl ⟨rfl, rfl⟩⟩, ⟨rfl, .inl ⟨rfl, rfl⟩⟩, (fun x h => by cases h), Kp.refl _ _, hM0.out⟩⟩
  case round =>
    obtain ⟨i, hi, hkk, rfl, HP⟩ := hrel
    by_cases hlt : i < u.length
    · obtain ⟨b, o, rfl, hcell⟩ := HW.out.place (by omega)
      have q := HP.out.mem.cell (hcell i hlt)
      have hlen := cutR_len m u i
      have hstep : cutToR m u (i + 1) = cutAddR m i (u.getD i []) (cutToR m u i) := rfl
      have hget : u.getD i [] = u[i] := by rw [List.getD_eq_getElem?_getD, List.getElem?_eq_getElem hlt]; rfl
      rw [hget] at hstep
      have hbit := bit_is m i hm
      have hbase : w.heap.size ≤ wr.heap.size := HP.out.kp.size
      have HBS := Hid.mk hbase
      generalize hxe : cutToR m u i = X at *
      clear hxe hget hcell hbase
      by_cases hd : (m >>> i) % 2 = 1
      · rw [hd] at hbit
        rw [cutR_one hd] at hstep
        have HST := Hid.mk hstep
        have hbig : (X.a.length + 1 ≤ maxLen) ∧ (X.a.length + 1) * 16 ≤ 140737488355328 := by unfold maxLen; omega
        have HBG := Hid.mk hbig
        clear hstep hd hbig hlen
        go_wp2_with (at_builtin; go_must (refine wpList_append_lies _ rfl (.tmp 20) (.tmp 25) 25 rfl w.heap.size 9 i0 _ 1 16 Tryz.underlying25 HI.out.1 HI.out.2.1 HI.out.2.2.1 HI.out.2.2.2 rfl (Nat.succ_pos 0) u6 X.a.length (strs X.a) rfl (ownb_alloc HP.out.o1 _) ⟨wr.heap.size, 0, none⟩ 1 1 [.string (bs u[i])] rfl rfl (str_cells (heap_alloc_new _ _)) str_one Nat.one_pos HBG.out.1 HBG.out.2 (Nat.le_trans HBS.out (by simp)) _ rfl ?_); intro g1 cap1 w5 hown5 hgr5 hat5 hlt5)
        go_roundg (u.length - (i + 1))
        case measure => omega
        case rel =>
          have hs := HP.out.step hown5 hgr5 hat5
          refine ⟨i + 1, by omega, rfl, by go_num, Hid.mk ?_⟩
          rw [HST.out]
          exact hs
      · have hd0 : (m >>> i) % 2 = 0 := by omega
        rw [hd0] at hbit
        rw [cutR_zero hd] at hstep
        have HST := Hid.mk hstep
        have hbig : (X.b.length + 1 ≤ maxLen) ∧ (X.b.length + 1) * 16 ≤ 140737488355328 := by unfold maxLen; omega
        have HBG := Hid.mk hbig
        clear hstep hd hd0 hbig hlen
        go_wp2_with (at_builtin; go_must (refine wpList_append_lies _ rfl (.tmp 27) (.tmp 32) 25 rfl w.heap.size 9 i0 _ 1 16 Tryz.underlying25 HI.out.1 HI.out.2.1 HI.out.2.2.1 HI.out.2.2.2 rfl (Nat.succ_pos 0) u7 X.b.length (strs X.b) rfl (ownb_alloc HP.out.o2 _) ⟨wr.heap.size, 0, none⟩ 1 1 [.string (bs u[i])] rfl rfl (str_cells (heap_alloc_new _ _)) str_one Nat.one_pos HBG.out.1 HBG.out.2 (Nat.le_trans HBS.out (by simp)) _ rfl ?_); intro g1 cap1 w5 hown5 hgr5 hat5 hlt5)
        go_roundg (u.length - (i + 1))
        case measure => omega
        case rel =>
          have hs := (HP.out.swap.step hown5 hgr5 hat5).swap
          refine ⟨i + 1, by omega, rfl, by go_num, Hid.mk ?_⟩
          rw [HST.out]
          exact hs
    · obtain rfl : i = u.length := by omega
      have hnlt : ¬ ((u.length : Int) < (u.length : Int)) := by omega
      go_wp2_with fail
      go_ret2
      exact ⟨_, _, rfl, HP.out.o1, HP.out.o2, HP.out.kp⟩
end Go.Proofs.YtgdnhlckodhhgaaGreatDoor

/-
  The reference's asker: isShuffled.
-/
namespace Go.Proofs.YtgdnhlckodhhgaaGreatDoor
open Go.RowKit
set_option linter.unusedVariables false
set_option linter.unusedSimpArgs false
theorem shuf_yes {p q : List Bs → Bool} {u : List Bs} {m : Nat} (hm : m < 2 ^ u.length) (h1 : p (cutToR m u u.length).a = true) (h2 : q (cutToR m u u.length).b = true) : shufR p q u = true := by
  unfold shufR
  rw [List.any_eq_true]
  exact ⟨m, by rw [List.mem_range]; exact hm, by rw [h1, h2]; rfl⟩
theorem shuf_no {p q : List Bs → Bool} {u : List Bs} (h : ∀ m, m < 2 ^ u.length → (p (cutToR m u u.length).a && q (cutToR m u u.length).b) = false) : shufR p q u = false := by
  unfold shufR
  rw [List.any_eq_false]
  intro m hm
  rw [List.mem_range] at hm
  rw [h m hm]; simp
set_option maxRecDepth 100000 in
set_option maxHeartbeats 2000000 in
theorem rAshuffled_calls {ga gm gi n cap L k0 k1 : Nat} {V : Bs → Bool} {e0 e1 : E} (hL : L ≤ 10) (hx0 : RH ga gm gi n cap V L k0 e0) (hx1 : RH ga gm gi n cap V L k1 e1) (M : Heap) (u : List Bs) (A : Option Addr) (bk ok c ck : Nat) (w : World) (hr0 : RN M gi n k0 e0) (hr1 : RN M gi n k1 e1)
    (hk0 : cellM M ⟨bk, ok, none⟩ = some (.int .i64 (k0 : Nat))) (hk1 : cellM M ⟨bk, ok + 1, none⟩ = some (.int .i64 (k1 : Nat))) (hws : WvM M A u) (hc : u.length ≤ c) (hok : OkW L u) (hM : Mem w M) (hA : AsR w M ga gm gi n cap V) :
    Calls Tryz.prog 134 #[.pointer (some ⟨ga, 0, none⟩), .slice (some ⟨bk, ok, none⟩) 2 ck, .slice A u.length c] w (HR M ga gm gi n cap V w (shufR (rev e0) (rev e1) u)) := by
  have hul : u.length ≤ 10 := Nat.le_trans hok.1 hL
  obtain ⟨hga, hgm⟩ := hA.lt
  obtain ⟨N, hN⟩ : ∃ N : Nat, N = 2 ^ u.length := ⟨_, rfl⟩
  have hNi : (2 : Int) ^ u.length = (N : Int) := by rw [hN]; simp
  have hN1 : N ≤ 1024 := by rw [hN]; exact Nat.pow_le_pow_right (by omega) hul
  have HN := Hid.mk hN
  have HPT := Hid.mk (fun m (hm : m < 1099511627776) w (hM : Mem w M) => parted_calls hws hc (by omega) hm w hM)
  have HK := Hid.mk (And.intro hk0 hk1)
  have HOK := Hid.mk hok
  have HX0 := Hid.mk (fun b => hx0.row hr0 (base := b))
  have HX1 := Hid.mk (fun b => hx1.row hr1 (base := b))
  have HH := Hid.mk (And.intro hM (And.intro hA (Kp.refl [gm] w)))
  clear hN hws hk0 hk1 hok hx0 hx1 hr0 hr1 hM hA
  go_enter Tryz.func134, Tryz.ntmps134
  go_wp2_with fail
  go_loopg [7] N (fun kk v wr => ∃ m : Nat, m ≤ N ∧ kk = N - m ∧ v = .int .i64 (m : Nat) ∧ Hid (∀ m', m' < m → (rev e0 (cutToR m' u u.length).a && rev e1 (cutToR m' u u.length).b) = false) ∧ Hid (Mem wr M ∧ AsR wr M ga gm gi n cap V ∧ Kp [gm] w wr))
  case atStart => exact ⟨0, Nat.zero_le _, by simp, rfl, Hid.mk (fun _ h => by omega), HH⟩
  case round =>
    clear HH
    obtain ⟨m, hm, hkk, rfl, HNO, HW⟩ := hrel
    by_cases hlt : m < N
    · have HP := Hid.mk (HPT.out m (by omega) wr HW.out.1)
      have HS := Hid.mk (cutR_full m u)
      generalize hxe : cutToR m u u.length = X at *
      have HXE := Hid.mk hxe
      clear hxe
      go_wp2_with fail
      (with_reducible refine HP.out.mono ?_)
      intro en w3 hpt
      obtain ⟨v1, v2, rfl, o1, o2, hk3⟩ := hpt
      have hsz := HW.out.2.2.size
      have hMb : ∀ b, wr.heap.size ≤ b → M b = none := fun b hb => HW.out.1.ge hb
      have hM3 := HW.out.1.kp hk3 (by simp)
      have hA3 := HW.out.2.1.kp hk3 (by simp) (by simp)
      have HC0 := Hid.mk (HX0.out wr.heap.size hMb (by omega) (by omega) (HOK.out.sub HS.out.1) o1 hM3 hA3)
      have q0 := hM3.cell HK.out.1
      have HMB := Hid.mk hMb
      have H3 := Hid.mk (And.intro o2 (HW.out.2.2.trans hk3.nil))
      have HSZ := Hid.mk hsz
      clear hMb o1 o2 hk3 hM3 hA3 HP hsz
      cases hva : rev e0 X.a with
      | false =>
        rw [hva] at HC0
        have HNN : Hid ((rev e0 X.a && rev e1 X.b) = false) := Hid.mk (by rw [hva]; rfl)
        clear hva
        go_wp2_with fail
        (with_reducible refine HC0.out.mono ?_)
        rintro en w5 ⟨rfl, hM5, hA5, hk5⟩
        have HZ := Hid.mk (And.intro hM5 (And.intro hA5 (H3.out.2.trans hk5)))
        clear hM5 hA5 hk5 q0
        go_wp2_with fail
        go_roundg (N - (m + 1))
        case measure => omega
        case rel => exact ⟨m + 1, by omega, rfl, by go_num, Hid.mk (fun m' h => by
            by_cases h1 : m' = m
            · rw [h1, HXE.out]; exact HNN.out
            · exact HNO.out m' (by omega)), HZ⟩
      | true =>
        rw [hva] at HC0
        have HVA := Hid.mk hva
        clear hva
        go_wp2_with fail
        (with_reducible refine HC0.out.mono ?_)
        rintro en w5 ⟨rfl, hM5, hA5, hk5⟩
        have hsz := HSZ.out
        have o5 := ownb_kp H3.out.1 hk5 (fun x hx => by simp at hx; omega)
        have HC1 := Hid.mk (HX1.out wr.heap.size HMB.out (by omega) (by omega) (HOK.out.sub HS.out.2.1) o5 hM5 hA5)
        have q1 := hM5.cell HK.out.2
        have H5 := Hid.mk (H3.out.2.trans hk5)
        clear o5 hM5 hA5 hk5 q0 hsz
        cases hvb : rev e1 X.b with
        | false =>
          rw [hvb] at HC1
          have HNN : Hid ((rev e0 X.a && rev e1 X.b) = false) := Hid.mk (by rw [hvb, HVA.out]; rfl)
          clear hvb
          go_wp2_with fail
          (with_reducible refine HC1.out.mono ?_)
          rintro en w6 ⟨rfl, hM6, hA6, hk6⟩
          have HZ := Hid.mk (And.intro hM6 (And.intro hA6 (H5.out.trans hk6)))
          clear hM6 hA6 hk6 q1
          go_wp2_with fail
          go_roundg (N - (m + 1))
          case measure => omega
          case rel => exact ⟨m + 1, by omega, rfl, by go_num, Hid.mk (fun m' h => by
              by_cases h1 : m' = m
              · rw [h1, HXE.out]; exact HNN.out
              · exact HNO.out m' (by omega)), HZ⟩
        | true =>
          rw [hvb] at HC1
          have HT : Hid (shufR (rev e0) (rev e1) u = true) := Hid.mk (shuf_yes (m := m) (by rw [← HN.out]; exact hlt) (by rw [HXE.out]; exact HVA.out) (by rw [HXE.out]; exact hvb))
          clear hvb
          go_wp2_with fail
          (with_reducible refine HC1.out.mono ?_)
          rintro en w6 ⟨rfl, hM6, hA6, hk6⟩
          have HZ := Hid.mk (And.intro hM6 (And.intro hA6 (H5.out.trans hk6)))
          clear hM6 hA6 hk6 q1
          go_wp2_with fail
          go_ret
          exact ⟨ret_bool HT.out.symm, HZ.out⟩
    · obtain rfl : m = N := by omega
      have hnlt : ¬ ((m : Int) < (m : Int)) := by omega
      have HT : Hid (shufR (rev e0) (rev e1) u = false) := Hid.mk (shuf_no (fun m' h => HNO.out m' (by rw [HN.out]; exact h)))
      go_wp2_with fail
      go_ret
      exact ⟨ret_bool HT.out.symm, HW.out⟩
end Go.Proofs.YtgdnhlckodhhgaaGreatDoor
