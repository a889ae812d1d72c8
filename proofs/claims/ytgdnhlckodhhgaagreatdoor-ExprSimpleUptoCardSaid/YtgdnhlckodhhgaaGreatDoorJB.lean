/-
  The program's reader: take, begins.
-/
import Derived.Test.YtgdnhlckodhhgaaGreatDoorJA
import Derived.WideMake
import Derived.Laws.IdiomRangeMap
namespace Go.Proofs.YtgdnhlckodhhgaaGreatDoor
open Go.RowKit
/-- A reader is left at q. -/
def wrongAt (l q : Bs) : PanicEntry := { v := .iface 98 (.agg #[.int .i64 (at_ l q : Nat)]), recovered := false }
theorem token_yes {g : Nat} {l r u : Bs} {w : World} {M : Heap} (hR : Rd w M g l r) (hl : l.length ≤ 6000) (h : tk (sk r) = some u) :
    Calls Tryz.prog 64 #[.pointer (some ⟨g, 0, none⟩)] w fun e w' => e = .returned (.string (bs u)) ∧ Rd w' M g l (sk r) ∧ Kp [g] w w' :=
  (token_calls g l r w M hR hl).mono fun e w' ⟨h1, h2⟩ => ⟨by unfold TokEnd at h1; rw [h] at h1; exact h1, h2⟩
theorem token_no {g : Nat} {l r : Bs} {w : World} {M : Heap} (hR : Rd w M g l r) (hl : l.length ≤ 6000) (h : tk (sk r) = none) :
    Calls Tryz.prog 64 #[.pointer (some ⟨g, 0, none⟩)] w fun e w' => e = .panicked [wrongAt l (sk r)] ∧ Rd w' M g l (sk r) ∧ Kp [g] w w' :=
  (token_calls g l r w M hR hl).mono fun e w' ⟨h1, h2⟩ => ⟨by unfold TokEnd at h1; rw [h] at h1; exact h1, h2⟩
set_option maxRecDepth 100000 in
set_option maxHeartbeats 1000000 in
theorem take_no {g : Nat} {l r : Bs} {w : World} {M : Heap} (t : ByteArray) (hR : Rd w M g l r) (hl : l.length ≤ 6000) (h : tk (sk r) = none) :
    Calls Tryz.prog 104 #[.pointer (some ⟨g, 0, none⟩), .string t] w fun e w' => e = .panicked [wrongAt l (sk r)] ∧ Rd w' M g l (sk r) ∧ Kp [g] w w' := by
  have H := Hid.mk h
  clear h
  go_enter Tryz.func104, Tryz.ntmps104
  go_wp2_with (go_at_call 64; refine (token_no hR hl H.out).mono ?_; rintro e w' ⟨rfl, h1, h2⟩)
  exact ⟨rfl, rfl, h1, h2⟩
set_option maxRecDepth 100000 in
set_option maxHeartbeats 1000000 in
theorem take_yes {g : Nat} {l r t : Bs} {w : World} {M : Heap} (hR : Rd w M g l r) (hl : l.length ≤ 6000) (h : tk (sk r) = some t) :
    Calls Tryz.prog 104 #[.pointer (some ⟨g, 0, none⟩), .string (bs t)] w fun e w' => e = .returned (.bool true) ∧ Rd w' M g l ((sk r).drop t.length) ∧ Kp [g] w w' := by
  have H := Hid.mk h
  have hle : t.length ≤ (sk r).length := (tk_len h).2.1
  have hsuf := hR.suf
  have hlr : (sk r).length ≤ l.length := ((sk_suffix r).trans hsuf).length_le
  clear h
  have hz := bs_size t
  have hlt := bs_toList t
  go_enter Tryz.func104, Tryz.ntmps104
  go_wp2_with (go_at_call 64; refine (token_yes hR hl H.out).mono ?_; rintro e w1 ⟨rfl, h1, h2⟩; have hc1 : w1.cell? ⟨g, 1, none⟩ = some (.int .i64 (at_ l (sk r) : Nat)) := h1.box.cell 1; have hf1 : w1.frozen? ⟨g, 1, none⟩ = false := h1.box.free 1; have hp : at_ l (sk r) + (sk r).length = l.length := (by simp [at_]; omega); have A : Aside (Rd w1 M g l (sk r) ∧ Kp [g] w w1) := ⟨h1, h2⟩; clear h1 h2; have Hp := Hid.mk (rfl : at_ l (sk r) = at_ l (sk r)); generalize at_ l (sk r) = p at hc1 hp)
  go_ret
  obtain ⟨h1, h2⟩ := A.out
  refine ⟨rfl, Rd.mk' (h1.box.set 1 _) ((List.drop_suffix _ _).trans h1.suf) (p := p + t.length) ?_, h2.setCell (.inl (by simp)) _⟩
  simp [at_]; omega
set_option maxRecDepth 100000 in
set_option maxHeartbeats 1000000 in
theorem take_ne {g : Nat} {l r u t : Bs} {w : World} {M : Heap} (hR : Rd w M g l r) (hl : l.length ≤ 6000) (h : tk (sk r) = some u) (e : u ≠ t) :
    Calls Tryz.prog 104 #[.pointer (some ⟨g, 0, none⟩), .string (bs t)] w fun e w' => e = .returned (.bool false) ∧ Rd w' M g l (sk r) ∧ Kp [g] w w' := by
  have H := Hid.mk h
  clear h
  have hlu := bs_toList u
  have hlt := bs_toList t
  have hne : (u == t) = false := by simpa using e
  go_enter Tryz.func104, Tryz.ntmps104
  go_wp2_with (go_at_call 64; refine (token_yes hR hl H.out).mono ?_; rintro e w' ⟨rfl, h1, h2⟩)
  go_ret
  exact ⟨rfl, h1, h2⟩
theorem begT_eq (c : UInt8) (t : Bs) : begT (c :: t) = (!((c :: t) == [61, 62]) && (decide (1 < t.length + 1) || isNameI c.toNat || decide (0 ≤ idx [126, 36, 46, 33, 91] c))) := by
  have h := idx_ge [126, 36, 46, 33, 91] c
  have e : decide (0 ≤ idx [126, 36, 46, 33, 91] c) = (c == 126 || c == 36 || c == 46 || c == 33 || c == 91) := by
    rw [Bool.eq_iff_iff, decide_eq_true_eq, ← ge_iff_le, h]; simp [or_assoc]
  rw [e]
  cases t <;> simp [begT, nameB, cod, Bool.or_assoc]
set_option maxRecDepth 100000 in
set_option maxHeartbeats 1000000 in
theorem begins_calls (t : Bs) (w : World) : Calls Tryz.prog 264 #[.string (bs t)] w fun e w' => e = .returned (.bool (begT t)) ∧ w = w' := by
  cases t with
  | nil =>
    have hz : (bs []).toList = [] := bs_toList _
    go_enter Tryz.func264, Tryz.ntmps264
    go_wp2_with fail
    go_ret
    exact ⟨rfl, rfl⟩
  | cons c t =>
    have hz : (bs (c :: t)).toList = c :: t := bs_toList _
    have hs : (bs (c :: t)).size = t.length + 1 := bs_size _
    have hq0 : (bs (c :: t))[0]'(by rw [hs]; omega) = c := by simp [bs, ByteArray.getElem_eq_getElem_data]
    by_cases h12 : ((c :: t) == [61, 62]) = true
    · have Hf := Hid.mk (show begT (c :: t) = false by rw [begT_eq, h12]; rfl)
      go_enter Tryz.func264, Tryz.ntmps264
      go_wp2_with (first | (go_at_call 106; refine (isName_calls _ _).mono ?_; rintro e w' ⟨rfl, rfl⟩) | (go_at_call 107; refine (IndexByte_b _ _ _).mono ?_; rintro e w' ⟨rfl, rfl⟩))
      go_ret
      exact ⟨ret_bool Hf.out.symm, rfl⟩
    · replace h12 := Bool.eq_false_iff.2 h12
      by_cases hl : (1 : Int) < (t.length : Int) + 1
      · have Hf := Hid.mk (show begT (c :: t) = true by rw [begT_eq, h12]; simp; left; left; omega)
        go_enter Tryz.func264, Tryz.ntmps264
        go_wp2_with (first | (go_at_call 106; refine (isName_calls _ _).mono ?_; rintro e w' ⟨rfl, rfl⟩) | (go_at_call 107; refine (IndexByte_b _ _ _).mono ?_; rintro e w' ⟨rfl, rfl⟩))
        go_ret
        exact ⟨ret_bool Hf.out.symm, rfl⟩
      · have hd : decide (1 < t.length + 1) = false := decide_eq_false (by omega)
        have Hf := Hid.mk (show begT (c :: t) = (isNameI c.toNat || decide (0 ≤ idx [126, 36, 46, 33, 91] c)) by rw [begT_eq, h12, hd]; simp)
        clear hd
        by_cases hN : isNameI c.toNat = true
        · go_enter Tryz.func264, Tryz.ntmps264
          go_wp2_with (first | (go_at_call 106; refine (isName_calls _ _).mono ?_; rintro e w' ⟨rfl, rfl⟩) | (go_at_call 107; refine (IndexByte_b _ _ _).mono ?_; rintro e w' ⟨rfl, rfl⟩))
          go_ret
          exact ⟨ret_bool (by rw [Hf.out, hN]; rfl), rfl⟩
        · replace hN := Bool.eq_false_iff.2 hN
          go_enter Tryz.func264, Tryz.ntmps264
          go_wp2_with (first | (go_at_call 106; refine (isName_calls _ _).mono ?_; rintro e w' ⟨rfl, rfl⟩) | (go_at_call 107; refine (IndexByte_b _ _ _).mono ?_; rintro e w' ⟨rfl, rfl⟩))
          go_ret
          exact ⟨ret_bool (by rw [Hf.out, hN]; rfl), rfl⟩
end Go.Proofs.YtgdnhlckodhhgaaGreatDoor

/-
  The program's reader: what goes on from the left with a sign; neighbours with a sign between.
-/
namespace Go.Proofs.YtgdnhlckodhhgaaGreatDoor
open Go.RowKit
set_option linter.unusedVariables false
/-- How a level of the reader ends, its answer being x. -/
def GEnd (w : World) (M : Heap) (g : Nat) (l : Bs) (x : Ex (E × Bs)) (e : Ending) (w' : World) : Prop := Kp [g] w w' ∧ match x with
  | .ok (a, r') => ∃ A c M', e = .returned (.agg #[.int .i64 a.op, .string (bs a.s), .slice A a.l.length c]) ∧ ExV M' a A c ∧ Mem w' M' ∧ Ext w.heap.size M M' ∧ Rd w' M' g l r'
  | .error q => e = .panicked [wrongAt l q]
/-- A level's function does what G says, with k rounds. -/
def LvSpec (f : FuncId) (n k : Nat) : Prop := ∀ (g : Nat) (l r : Bs) (w : World) (M : Heap) (x : Ex (E × Bs)), Rd w M g l r → Mem w M → l.length ≤ 6000 → G k (.lv n r) = some x →
  Calls Tryz.prog f #[.pointer (some ⟨g, 0, none⟩)] w (GEnd w M g l x)
theorem LvSpec.ok {f n k g : Nat} {l r r1 : Bs} {w : World} {M : Heap} {a : E} (h : LvSpec f n k) (hR : Rd w M g l r) (hM : Mem w M) (hl : l.length ≤ 6000) (hx : G k (.lv n r) = some (.ok (a, r1))) :
    Calls Tryz.prog f #[.pointer (some ⟨g, 0, none⟩)] w fun e w' => ∃ A c M', e = .returned (.agg #[.int .i64 a.op, .string (bs a.s), .slice A a.l.length c]) ∧ ExV M' a A c ∧ Mem w' M' ∧ Ext w.heap.size M M' ∧ Rd w' M' g l r1 ∧ Kp [g] w w' :=
  (h g l r w M _ hR hM hl hx).mono fun e w' ⟨h1, A, c, M', h2, h3, h4, h5, h6⟩ => ⟨A, c, M', h2, h3, h4, h5, h6, h1⟩
theorem LvSpec.err {f n k g : Nat} {l r q : Bs} {w : World} {M : Heap} (h : LvSpec f n k) (hR : Rd w M g l r) (hM : Mem w M) (hl : l.length ≤ 6000) (hx : G k (.lv n r) = some (.error q)) :
    Calls Tryz.prog f #[.pointer (some ⟨g, 0, none⟩)] w fun e w' => e = .panicked [wrongAt l q] ∧ Kp [g] w w' :=
  (h g l r w M _ hR hM hl hx).mono fun e w' ⟨h1, h2⟩ => ⟨h2, h1⟩
theorem Rd.alloc {w : World} {M : Heap} {g : Nat} {l r : Bs} (h : Rd w M g l r) (o : Obj) : Rd (w.alloc o) M g l r := ⟨h.box.alloc o, h.suf⟩
theorem Rd.kp {w w1 : World} {M M1 : Heap} {g n : Nat} {l r : Bs} {S : List Nat} (h : Rd w M g l r) (k : Kp S w w1) (hs : g ∉ S) (e : Ext n M M1) (hn : g < n) : Rd w1 M1 g l r := ⟨h.box.kp k hs e hn, h.suf⟩
theorem Rd.same {w w1 : World} {M : Heap} {g : Nat} {l r : Bs} {S : List Nat} (h : Rd w M g l r) (k : Kp S w w1) (hs : g ∉ S) : Rd w1 M g l r := ⟨h.box.same k hs, h.suf⟩
/-- A node over two: its row is laid, and the node stored into a box. -/
theorem node2 {w : World} {M : Heap} {b9 : Nat} {x y z : Value} {t : TypeId} (o10 : Obj) (op : Int) {a b : E} {A B : Option Addr} {c d : Nat}
    (h9 : Box w M b9 #[x, y, z] t) (hM : Mem w M) (ha : ExV M a A c) (hb : ExV M b B d) : ∃ M',
    let W := ((((w.setCell ⟨b9, 0, none⟩ (.int .i64 op)).setCell ⟨b9, 1, none⟩ (.string ⟨#[]⟩)).setCell ⟨b9, 2, none⟩ (.slice (some ⟨w.heap.size + 1, 0, none⟩) 2 2)).alloc o10).alloc
      (.cells #[.int .i64 a.op, .string (bs a.s), .slice A a.l.length c, .int .i64 b.op, .string (bs b.s), .slice B b.l.length d] 24)
    Box W M' b9 #[.int .i64 op, .string (bs []), .slice (some ⟨w.heap.size + 1, 0, none⟩) 2 2] t ∧ ExV M' (.mk op [] [a, b]) (some ⟨w.heap.size + 1, 0, none⟩) 2 ∧ Mem W M' ∧ Ext w.heap.size M M' ∧ Kp [b9] w W := by
  have hk : Kp [b9] w (((w.setCell ⟨b9, 0, none⟩ (.int .i64 op)).setCell ⟨b9, 1, none⟩ (.string ⟨#[]⟩)).setCell ⟨b9, 2, none⟩ (.slice (some ⟨w.heap.size + 1, 0, none⟩) 2 2)) := (Kp.refl [b9] w).set3 (.inl (by simp))
  have hb3 : Box _ M b9 #[.int .i64 op, .string (bs []), .slice (some ⟨w.heap.size + 1, 0, none⟩) 2 2] t := h9.set3 (x' := .int .i64 op) (y' := .string ⟨#[]⟩) (z' := .slice (some ⟨w.heap.size + 1, 0, none⟩) 2 2)
  have hsz : (((w.setCell ⟨b9, 0, none⟩ (.int .i64 op)).setCell ⟨b9, 1, none⟩ (.string ⟨#[]⟩)).setCell ⟨b9, 2, none⟩ (.slice (some ⟨w.heap.size + 1, 0, none⟩) 2 2)).heap.size = w.heap.size := by simp [World.setCell]
  have hM3 := hM.kp hk (by simpa using h9.out)
  generalize (((w.setCell ⟨b9, 0, none⟩ (.int .i64 op)).setCell ⟨b9, 1, none⟩ (.string ⟨#[]⟩)).setCell ⟨b9, 2, none⟩ (.slice (some ⟨w.heap.size + 1, 0, none⟩) 2 2)) = w3 at *
  have hsz4 : (w3.alloc o10).heap.size = w.heap.size + 1 := by simp [hsz]
  have hrow : ((w3.alloc o10).alloc (.cells #[.int .i64 a.op, .string (bs a.s), .slice A a.l.length c, .int .i64 b.op, .string (bs b.s), .slice B b.l.length d] 24)).heap[w.heap.size + 1]? = some _ := hsz4 ▸ heap_alloc_new _ _
  have hno : M (w.heap.size + 1) = none := hM.ge (by omega)
  have hlt := h9.lt
  refine ⟨M.put (w.heap.size + 1) (.cells #[.int .i64 a.op, .string (bs a.s), .slice A a.l.length c, .int .i64 b.op, .string (bs b.s), .slice B b.l.length d] 24), ((hb3.alloc _).alloc _).put (by omega), ?_, ((hM3.alloc _).alloc _).put hrow, Ext.put (by omega) hno, (hk.alloc _).alloc _⟩
  have he : Ext w.heap.size M (M.put (w.heap.size + 1) (.cells #[.int .i64 a.op, .string (bs a.s), .slice A a.l.length c, .int .i64 b.op, .string (bs b.s), .slice B b.l.length d] 24)) := Ext.put (by omega) hno
  refine ExV.node (ps := [(a, A, c), (b, B, d)]) (spare := []) op [] Heap.put_same (by simp [flat]) (by simp) (fun j hj => ?_)
  match j, hj with
  | 0, _ => exact ha.ext he
  | 1, _ => exact hb.ext he
theorem cells3 (a b c : Value) : (#[a, b, c] : Array Value)[0]? = some a ∧ (#[a, b, c] : Array Value)[1]? = some b ∧ (#[a, b, c] : Array Value)[2]? = some c := ⟨rfl, rfl, rfl⟩
set_option maxRecDepth 100000 in
set_option maxHeartbeats 4000000 in
theorem left_spec {f n k g : Nat} {l r : Bs} {w : World} {M : Heap} {x : Ex (E × Bs)} (hcf : ∀ w, (callFunc f #[.pointer (some ⟨g, 0, none⟩)]).run Tryz.prog w = .ok (.enter f #[.pointer (some ⟨g, 0, none⟩)]) w)
    (hS : ∀ k', k' ≤ k → LvSpec f (n + 1) k') (hR : Rd w M g l r) (hM : Mem w M) (hl : l.length ≤ 6000) (hx : bx (G k (.lv (n + 1) r)) (fun p => G k (.left n p.1 p.2)) = some x) :
    Calls Tryz.prog 169 #[.pointer (some ⟨g, 0, none⟩), .int .i64 (opn n), .string (bs (sgn n)), .func (.func f) #[.pointer (some ⟨g, 0, none⟩)] #[]] w (GEnd w M g l x) := by
  rcases bx_some hx with ⟨q, h1, rfl⟩ | ⟨⟨a, r1⟩, h1, h2⟩
  · have H1 := Hid.mk h1
    clear h1 hx
    go_enter Tryz.func169, Tryz.ntmps169
    go_wp2_with fail
    refine ((hS k (Nat.le_refl _)).err (hR.alloc _) (hM.alloc _) hl H1.out).mono ?_
    rintro e w1 ⟨rfl, hk1⟩
    go_wp2_with fail
    exact ⟨rfl, ((Kp.refl _ _).alloc _).trans hk1, rfl⟩
  · have H1 := Hid.mk h1
    have H2 := Hid.mk h2
    clear h1 h2 hx
    go_enter Tryz.func169, Tryz.ntmps169
    go_wp2_with fail
    refine ((hS k (Nat.le_refl _)).ok (hR.alloc _) (hM.alloc _) hl H1.out).mono ?_
    rintro e w1 ⟨A1, c1, M1, rfl, hx1, hM1, he1, hR1, hk1⟩
    have hsz : w.heap.size < w1.heap.size := by have := hk1.size; simp at this; omega
    have hgw : g < w.heap.size := hR.box.lt
    have hb8 : Box w1 M1 w.heap.size #[.int .i64 0, .string ⟨#[]⟩, .slice none 0 0] 24 := (Box.new hM _ _).kp hk1 (by simp; omega) he1 (by simp)
    go_wp2_with fail
    go_loopg [] k (fun kk wr => ∃ a' r' M' A c, G kk (.left n a' r') = some x ∧ kk ≤ k ∧ Box wr M' w1.heap.size #[.int .i64 a'.op, .string (bs a'.s), .slice A a'.l.length c] 24 ∧ Box wr M' w.heap.size #[.int .i64 0, .string ⟨#[]⟩, .slice none 0 0] 24 ∧ ExV M' a' A c ∧ Mem wr M' ∧ Ext w.heap.size M M' ∧ Rd wr M' g l r' ∧ Kp [g] w wr)
    case atStart =>
      refine ⟨a, r1, M1, A1, c1, H2.out, Nat.le_refl _, Box.new hM1 _ _, hb8.alloc _, hx1, hM1.alloc _, he1.low (by simp), hR1.alloc _, ?_⟩
      exact (((Kp.refl _ _).alloc _).trans hk1).alloc _
    case round =>
      obtain ⟨a', r', M', A, c, hG, hkk, hb9, hb8', hxa, hM', he', hR', hK⟩ := hrel
      clear hb8 hx1 hM1 he1 hR1 hk1
      cases gk with
      | zero => simp [G] at hG
      | succ kk =>
        simp only [G] at hG
        rcases lf_some hG with ⟨q, h1, rfl⟩ | ⟨⟨b, r2⟩, h1, h2⟩
        · obtain ⟨rfl, h3⟩ := takeT_err h1
          have H3 := Hid.mk h3
          clear h1 h3 hG
          go_wp2_with fail
          refine (take_no _ hR' hl H3.out).mono ?_
          rintro e w2 ⟨rfl, h4, hk2⟩
          go_wp2_with fail
          exact ⟨rfl, hK.trans hk2, rfl⟩
        · dsimp only at h2
          rcases takeT_ok h1 with ⟨rfl, h3, rfl⟩ | ⟨rfl, rfl, u, h3, h5⟩
          · have H3 := Hid.mk h3
            simp only [Bool.true_eq_false, if_false] at h2
            have H2' := Hid.mk h2
            clear h1 h2 h3 hG
            go_wp2_with fail
            refine (take_yes hR' hl H3.out).mono ?_
            rintro e w2 ⟨rfl, hR2, hk2⟩
            have hb9' := hb9.same hk2 (by simp; omega)
            have hb8'' := hb8'.same hk2 (by simp; omega)
            rcases bx_some H2'.out with ⟨q, h6, rfl⟩ | ⟨⟨b, r3⟩, h6, h7⟩
            · have H6 := Hid.mk h6
              clear h6
              go_wp2_with fail
              refine ((hS kk (by omega)).err hR2 (hM'.kp hk2 (by simpa using hR2.box.out)) hl H6.out).mono ?_
              rintro e w3 ⟨rfl, hk3⟩
              go_wp2_with fail
              exact ⟨rfl, (hK.trans hk2).trans hk3, rfl⟩
            · have H6 := Hid.mk h6
              have H7 := Hid.mk h7
              clear h6 h7 H2'
              go_wp2_with fail
              refine ((hS kk (by omega)).ok hR2 (hM'.kp hk2 (by simpa using hR2.box.out)) hl H6.out).mono ?_
              rintro e w3 ⟨A3, c3, M3, rfl, hx3, hM3, he3, hR3, hk3⟩
              have hlt2 := hb9'.lt
              have hb9'' := hb9'.kp hk3 (by simp; omega) he3 hlt2
              have hb8''' := hb8''.kp hk3 (by simp; omega) he3 hb8''.lt
              obtain ⟨⟨q0, q1, q2⟩, f0, f1, f2⟩ := hb9''.three
              have hz3 := hb9''.lt
              have HA := Hid.mk (And.intro hb9'' (And.intro hb8''' (And.intro hxa (And.intro hx3 (And.intro hM3 (And.intro he' (And.intro he3 (And.intro hK (And.intro hk2 (And.intro hk3 hR3))))))))))
              clear hb9 hb8' hxa hM' he' hR' hK hb9' hb8'' hR2 hk2 hb9'' hb8''' hx3 hM3 he3 hk3 hR3
              go_wp2_with fail
              obtain ⟨hb9, hb8, hxa, hx3, hM3, he', he3, hK, hk2, hk3, hR3⟩ := HA.out
              go_roundg kk
              case measure => omega
              case rel =>
                obtain ⟨M4, hb9, hxn, hM4, he4, hk4⟩ := node2 (.cells #[.int .i64 b.op, .string (bs b.s), .slice A3 b.l.length c3] 24) (opn n) hb9 hM3 (hxa.ext he3) hx3
                have hlt8 := hb8.lt
                refine ⟨_, r3, M4, some ⟨w3.heap.size + 1, 0, none⟩, 2, H7.out, by omega, hb9, hb8.kp hk4 (by simp; omega) he4 hb8.lt, hxn, hM4, ?_, ?_, ?_⟩
                · exact (he'.trans (he3.low (Nat.le_trans hK.size hk2.size)) (Nat.le_refl _)).trans (he4.low (Nat.le_trans hK.size (Nat.le_trans hk2.size hk3.size))) (Nat.le_refl _)
                · exact hR3.kp hk4 (by simp; omega) he4 hR3.box.lt
                · exact (((hK.trans hk2).trans hk3).inner hk4 (by simp; omega))
          · simp only [if_true] at h2
            have H3 := Hid.mk h3
            have H5 := Hid.mk h5
            injection h2 with h2
            subst h2
            clear h1 h3 h5 hG
            go_wp2_with fail
            refine (take_ne hR' hl H3.out H5.out).mono ?_
            rintro e w2 ⟨rfl, hR2, hk2⟩
            have hb9' := hb9.same hk2 (by simp; omega)
            have hb8'' := hb8'.same hk2 (by simp; omega)
            obtain ⟨⟨q0, q1, q2⟩, _, _, _⟩ := hb9'.three
            obtain ⟨⟨p0, p1, p2⟩, f0, f1, f2⟩ := hb8''.three
            have HA := Hid.mk (And.intro hb8'' (And.intro hxa (And.intro hM' (And.intro he' (And.intro hK (And.intro hR2 hk2))))))
            clear hb9 hb8' hxa hM' he' hR' hK hb9' hb8'' hR2 hk2
            go_wp2_with fail
            obtain ⟨hb8, hxa, hM', he', hK, hR2, hk2⟩ := HA.out
            have hk3 := Kp.set3 (b := w.heap.size) (x' := .int .i64 a'.op) (y' := .string (bs a'.s)) (z' := .slice A a'.l.length c) (Kp.refl [w.heap.size] w2) (.inl (by simp))
            obtain ⟨⟨r0, r1, r2⟩, _, _, _⟩ := (hb8.set3 (x' := .int .i64 a'.op) (y' := .string (bs a'.s)) (z' := .slice A a'.l.length c)).three
            refine bodyPost_ret (v := .agg #[.int .i64 a'.op, .string (bs a'.s), .slice A a'.l.length c]) (by simp [results, Tryz.results169, go_sem, r0, r1, r2]) rfl ?_
            exact ⟨(hK.trans hk2).set3 (.inr (Nat.le_refl _)), _, _, _, rfl, hxa, (hM'.kp hk2 (by simpa using hR2.box.out)).kp hk3 (by simpa using hb8.out), he', hR2.same hk3 (by simp; omega)⟩
end Go.Proofs.YtgdnhlckodhhgaaGreatDoor

/-
  The program's reader: neighbours with a sign between; things one behind the other.
-/
namespace Go.Proofs.YtgdnhlckodhhgaaGreatDoor
open Go.RowKit
set_option linter.unusedVariables false
theorem row_at (w : World) (o o' : Obj) : ((w.alloc o).alloc o').heap[w.heap.size + 1]? = some o' := by
  have h := heap_alloc_new (w.alloc o) o'
  have e : (w.alloc o).heap.size = w.heap.size + 1 := by simp
  rwa [e] at h
theorem size_at (w : World) (o o' : Obj) : ((w.alloc o).alloc o').heap.size = w.heap.size + 2 := by simp
theorem flat_cells {w : World} {b : Nat} {a : E} {A : Option Addr} {c : Nat} {t : TypeId} (h : w.heap[b]? = some (.cells #[.int .i64 a.op, .string (bs a.s), .slice A a.l.length c] t (0, 0))) :
    ∀ j u, (flat [(a, A, c)])[j]? = some u → w.cell? ((⟨b, 0, none⟩ : Addr).add j) = some u := by
  intro j u hu
  have e : (⟨b, 0, none⟩ : Addr).add j = ⟨b, j, none⟩ := by unfold Addr.add; split <;> simp_all
  rw [e]
  simp only [World.cell?, h, Option.isSome_none, Bool.false_eq_true, if_false]
  match j, hu with
  | 0, hu => exact hu
  | 1, hu => exact hu
  | 2, hu => exact hu
  | j + 3, hu => simp [flat] at hu
theorem flat_one {a : E} {A : Option Addr} {c : Nat} : ∀ u ∈ flat [(a, A, c)], u.oneCell' = true := by
  intro u hu
  simp [flat] at hu
  rcases hu with rfl | rfl | rfl <;> rfl
theorem one_ne (op : Int) {l : List E} (h : l.length ≠ 1) : one op l = .mk op [] l := by
  match l, h with
  | [], _ => rfl
  | a :: b :: l, _ => rfl
set_option maxRecDepth 100000 in
set_option maxHeartbeats 4000000 in
theorem all_spec {f n k g : Nat} {l r : Bs} {w : World} {M : Heap} {x : Ex (E × Bs)} (hcf : ∀ w, (callFunc f #[.pointer (some ⟨g, 0, none⟩)]).run Tryz.prog w = .ok (.enter f #[.pointer (some ⟨g, 0, none⟩)]) w)
    (hS : ∀ k', k' ≤ k → LvSpec f (n + 1) k') (hR : Rd w M g l r) (hM : Mem w M) (hl : l.length ≤ 6000) (hx : bx (G k (.lv (n + 1) r)) (fun p => G k (.all n [p.1] p.2)) = some x) :
    Calls Tryz.prog 199 #[.pointer (some ⟨g, 0, none⟩), .int .i64 (opn n), .string (bs (sgn n)), .func (.func f) #[.pointer (some ⟨g, 0, none⟩)] #[]] w (GEnd w M g l x) := by
  obtain ⟨i0, hi, hz⟩ := Option.map_eq_some_iff.1 Tryz.infoE
  simp only [Prod.mk.injEq] at hz
  obtain ⟨hz0, hz1, hz2⟩ := hz
  have HI := Hid.mk (And.intro hi (And.intro hz0 (And.intro hz1 hz2)))
  clear hi hz0 hz1 hz2
  rcases bx_some hx with ⟨q, h1, rfl⟩ | ⟨⟨a, r1⟩, h1, h2⟩
  · have H1 := Hid.mk h1
    clear h1 hx
    go_enter Tryz.func199, Tryz.ntmps199
    go_wp2_with fail
    refine ((hS k (Nat.le_refl _)).err (hR.alloc _) (hM.alloc _) hl H1.out).mono ?_
    rintro e w1 ⟨rfl, hk1⟩
    go_wp2_with fail
    exact ⟨rfl, ((Kp.refl _ _).alloc _).trans hk1, rfl⟩
  · have H1 := Hid.mk h1
    have H2 := Hid.mk h2
    have HL := Hid.mk ((G_fwd _ _ _ h1).2 rfl)
    clear h1 h2 hx
    go_enter Tryz.func199, Tryz.ntmps199
    go_wp2_with fail
    refine ((hS k (Nat.le_refl _)).ok (hR.alloc _) (hM.alloc _) hl H1.out).mono ?_
    rintro e w1 ⟨A1, c1, M1, rfl, hx1, hM1, he1, hR1, hk1⟩
    have hsz : w.heap.size < w1.heap.size := by have := hk1.size; simp at this; omega
    have hgw : g < w.heap.size := hR.box.lt
    have hb8 : Box w1 M1 w.heap.size #[.int .i64 0, .string ⟨#[]⟩, .slice none 0 0] 24 := (Box.new hM _ _).kp hk1 (by simp; omega) he1 (by simp)
    go_wp2_with fail
    go_loopg [9] k (fun kk v9 wr => ∃ ps r' M' g0 cap, G kk (.all n (ps.map (·.1)) r') = some x ∧ kk ≤ k ∧ v9 = .slice (some ⟨g0, 0, none⟩) ps.length cap ∧ Sl wr M' 24 3 g0 ps.length cap (flat ps) ∧ AllV M' ps ∧ Box wr M' w.heap.size #[.int .i64 0, .string ⟨#[]⟩, .slice none 0 0] 24 ∧ Mem wr M' ∧ Ext w.heap.size M M' ∧ Rd wr M' g l r' ∧ Kp [g] w wr ∧ ps.length + r'.length ≤ l.length ∧ 0 < ps.length ∧ w.heap.size < g0)
    case atStart =>
      have hr := hR.suf.length_le
      have := HL.out
      simp only [Task.r] at this
      refine ⟨[(a, A1, c1)], r1, M1, w1.heap.size, 1, H2.out, Nat.le_refl _, rfl, ?_, AllV.one hx1, hb8.alloc _, hM1.alloc _, he1.low (by simp), hR1.alloc _, ?_, by simp; omega, by simp, hsz⟩
      · exact Sl.lit (heap_alloc_new _ _) hM1.new rfl (by unfold maxLen; simp)
      · exact (((Kp.refl _ _).alloc _).trans hk1).alloc _
    case round =>
      obtain ⟨ps, r', M', g0, cap, hG, hkk, rfl, hsl, hav, hb8', hM', he', hR', hK, hlen, hpos, hg0⟩ := hrel
      clear hb8 hx1 hM1 he1 hR1 hk1
      cases gk with
      | zero => simp [G] at hG
      | succ kk =>
        simp only [G] at hG
        rcases lf_some hG with ⟨q, h1, rfl⟩ | ⟨⟨b, r2⟩, h1, h2⟩
        · obtain ⟨rfl, h3⟩ := takeT_err h1
          have H3 := Hid.mk h3
          clear h1 h3 hG
          go_wp2_with fail
          refine (take_no _ hR' hl H3.out).mono ?_
          rintro e w2 ⟨rfl, h4, hk2⟩
          go_wp2_with fail
          exact ⟨rfl, hK.trans hk2, rfl⟩
        · dsimp only at h2
          rcases takeT_ok h1 with ⟨rfl, h3, rfl⟩ | ⟨rfl, rfl, u, h3, h5⟩
          · have H3 := Hid.mk h3
            have HT := Hid.mk (takeT_len h1).length_le
            simp only [Bool.true_eq_false, if_false] at h2
            have H2' := Hid.mk h2
            clear h1 h2 h3 hG
            go_wp2_with fail
            refine (take_yes hR' hl H3.out).mono ?_
            rintro e w2 ⟨rfl, hR2, hk2⟩
            have hsl' := hsl.same hk2 (by simp; omega)
            have hb8'' := hb8'.same hk2 (by simp; omega)
            rcases bx_some H2'.out with ⟨q, h6, rfl⟩ | ⟨⟨b, r3⟩, h6, h7⟩
            · have H6 := Hid.mk h6
              clear h6
              go_wp2_with fail
              refine ((hS kk (by omega)).err hR2 (hM'.kp hk2 (by simpa using hR2.box.out)) hl H6.out).mono ?_
              rintro e w3 ⟨rfl, hk3⟩
              go_wp2_with fail
              exact ⟨rfl, (hK.trans hk2).trans hk3, rfl⟩
            · have H6 := Hid.mk h6
              have H7 := Hid.mk h7
              have HL3 := Hid.mk ((G_fwd _ _ _ h6).2 rfl)
              clear h6 h7 H2'
              go_wp2_with fail
              refine ((hS kk (by omega)).ok hR2 (hM'.kp hk2 (by simpa using hR2.box.out)) hl H6.out).mono ?_
              rintro e w3 ⟨A3, c3, M3, rfl, hx3, hM3, he3, hR3, hk3⟩
              have hsl'' := hsl'.kp hk3 (by simp; omega) he3 hsl'.lt
              have hb8''' := hb8''.kp hk3 (by simp; omega) he3 hb8''.lt
              have hz3 := hsl''.lt
              have hlen' : ps.length ≤ 6000 := by omega
              have HA := Hid.mk (And.intro hsl'' (And.intro hb8''' (And.intro hav (And.intro hx3 (And.intro hM3 (And.intro he' (And.intro he3 (And.intro hK (And.intro hk2 (And.intro hk3 hR3))))))))))
              clear hsl hb8' hav hM' he' hR' hK hsl' hb8'' hR2 hk2 hsl'' hb8''' hx3 hM3 he3 hk3 hR3
              have hbig : (ps.length + 1 ≤ maxLen) ∧ (ps.length + 1) * 48 ≤ 140737488355328 := by unfold maxLen; omega
              have HB := Hid.mk hbig
              clear hbig
              go_wp2_with (at_builtin; go_must (refine wpList_append_lies _ rfl (.tmp 19) (.tmp 21) 22 rfl 0 24 i0 _ 3 48 Tryz.underlying22 HI.out.1 HI.out.2.1 HI.out.2.2.1 HI.out.2.2.2 rfl (Nat.succ_pos 2) _ ps.length (flat ps) rfl ((HA.out.1.alloc _).alloc _).own ⟨w3.heap.size + 1, 0, none⟩ 1 1 (flat [(b, A3, c3)]) rfl rfl (flat_cells (row_at _ _ _)) flat_one Nat.one_pos HB.out.1 HB.out.2 (Nat.zero_le _) (w3.heap.size + 2) (size_at _ _ _) ?_); intro g1 cap1 w5 hown5 hgr5 hat5 hlt5)
              obtain ⟨hsl, hb8, hav, hx3, hM3, he', he3, hK, hk2, hk3, hR3⟩ := HA.out
              have hk5 := Kp.of_grown hgr5
              have hat : (some g0 : Option Nat) = some g1 ∨ g1 = w3.heap.size + 2 := hat5
              clear hat5
              simp only [Option.some.injEq] at hat
              have hlt0 := hsl.lt
              have hlt8 := hb8.lt
              go_roundg kk
              case measure => omega
              case rel =>
                have hl3 := HL3.out
                have ht2 := HT.out
                simp only [Task.r] at hl3 ht2
                refine ⟨ps ++ [(b, A3, c3)], r3, M3, g1, cap1, by simpa using H7.out, by omega, by simp, ⟨by rw [flat_append, List.length_append]; exact hown5, ?_⟩, (hav.ext he3).snoc hx3, ((hb8.alloc _).alloc _).same hk5 (by simp; omega), ((hM3.alloc _).alloc _).kp hk5 (by simpa using hsl.out), ?_, ((hR3.alloc _).alloc _).same hk5 (by simp; omega), ?_, by simp; omega, by simp, ?_⟩
                · rcases hat with h | h
                  · rw [← h]; exact hsl.out
                  · rw [h]; exact hM3.ge (by omega)
                · exact he'.trans (he3.low (Nat.le_trans hK.size hk2.size)) (Nat.le_refl _)
                · exact ((((hK.trans hk2).trans hk3).alloc _).alloc _).inner hk5 (by simp; omega)
                · omega
          · simp only [if_true] at h2
            have H3 := Hid.mk h3
            have H5 := Hid.mk h5
            injection h2 with h2
            have H2' := Hid.mk h2
            clear h1 h2 h3 h5 hG
            have hlen' : ps.length ≤ 6000 := by omega
            go_wp2_with fail
            refine (take_ne hR' hl H3.out H5.out).mono ?_
            rintro e w2 ⟨rfl, hR2, hk2⟩
            have hsl' := hsl.same hk2 (by simp; omega)
            have hb8'' := hb8'.same hk2 (by simp; omega)
            obtain ⟨⟨p0, p1, p2⟩, f0, f1, f2⟩ := hb8''.three
            have HA := Hid.mk (And.intro hsl' (And.intro hb8'' (And.intro hav (And.intro hM' (And.intro he' (And.intro hK (And.intro hR2 hk2)))))))
            by_cases h1 : ps.length = 1
            · obtain ⟨⟨a1, A1', c1'⟩, rfl⟩ : ∃ p, ps = [p] := by
                match ps, h1 with
                | [p], _ => exact ⟨p, rfl⟩
              have q0 := hsl'.cell (j := 0) (v := .int .i64 a1.op) rfl
              have q1 := hsl'.cell (j := 1) (v := .string (bs a1.s)) rfl
              have q2 := hsl'.cell (j := 2) (v := .slice A1' a1.l.length c1') rfl
              clear hsl hb8' hav hM' he' hR' hK hsl' hb8'' hR2 hk2
              go_wp2_with fail
              obtain ⟨hsl, hb8, hav, hM', he', hK, hR2, hk2⟩ := HA.out
              have hk3 := Kp.set3 (b := w.heap.size) (x' := .int .i64 a1.op) (y' := .string (bs a1.s)) (z' := .slice A1' a1.l.length c1') (Kp.refl [w.heap.size] w2) (.inl (by simp))
              obtain ⟨⟨r0, r1, r2⟩, _, _, _⟩ := (hb8.set3 (x' := .int .i64 a1.op) (y' := .string (bs a1.s)) (z' := .slice A1' a1.l.length c1')).three
              refine bodyPost_ret (v := .agg #[.int .i64 a1.op, .string (bs a1.s), .slice A1' a1.l.length c1']) (by simp [results, Tryz.results199, go_sem, r0, r1, r2]) rfl ?_
              rw [← H2'.out]
              exact ⟨(hK.trans hk2).set3 (.inr (Nat.le_refl _)), _, _, M', rfl, hav 0 (by simp), (hM'.kp hk2 (by simpa using hR2.box.out)).kp hk3 (by simpa using hb8.out), he', hR2.same hk3 (by simp; omega)⟩
            · have h1b : ((ps.length : Int) == 1) = false := by rw [beq_eq_false_iff_ne]; omega
              have h1' := Hid.mk h1
              clear hsl hb8' hav hM' he' hR' hK hsl' hb8'' hR2 hk2 h1
              go_wp2_with fail
              obtain ⟨hsl, hb8, hav, hM', he', hK, hR2, hk2⟩ := HA.out
              have hk3 := Kp.set3 (b := w.heap.size) (x' := .int .i64 (opn n)) (y' := .string ⟨#[]⟩) (z' := .slice (some ⟨g0, 0, none⟩) ps.length cap) (Kp.refl [w.heap.size] w2) (.inl (by simp))
              obtain ⟨⟨r0, r1, r2⟩, _, _, _⟩ := (hb8.set3 (x' := .int .i64 (opn n)) (y' := .string ⟨#[]⟩) (z' := .slice (some ⟨g0, 0, none⟩) ps.length cap)).three
              refine bodyPost_ret (v := .agg #[.int .i64 (opn n), .string (bs []), .slice (some ⟨g0, 0, none⟩) ps.length cap]) (by simp [results, Tryz.results199, go_sem, r0, r1, r2, bs]) rfl ?_
              have hM2 := hM'.kp hk2 (by simpa using hR2.box.out)
              obtain ⟨M4, hxn, hM4, he4, hno⟩ := hsl.node rfl hM2 hav (opn n) [] w.heap.size (by omega)
              rw [← H2'.out, one_ne _ (by simpa using h1'.out)]
              refine ⟨(hK.trans hk2).set3 (.inr (Nat.le_refl _)), some ⟨g0, 0, none⟩, cap, M4, by simp [E.op, E.s, E.l], hxn, hM4.kp hk3 (by simpa using hno _ (by omega) hb8.out), he'.trans he4 (Nat.le_refl _), ?_⟩
              have hR4 := hR2.same hk3 (by simp; omega)
              exact ⟨⟨hR4.box.blk, hno _ (by omega) hR4.box.out⟩, hR4.suf⟩
end Go.Proofs.YtgdnhlckodhhgaaGreatDoor

/-
  The program's reader: things one behind the other.
-/
namespace Go.Proofs.YtgdnhlckodhhgaaGreatDoor
open Go.RowKit
set_option linter.unusedVariables false
set_option maxRecDepth 100000 in
set_option maxHeartbeats 4000000 in
theorem chain_spec {k g : Nat} {l r : Bs} {w : World} {M : Heap} {x : Ex (E × Bs)} 
    (hS : ∀ k', k' ≤ k → LvSpec 263 7 k') (hR : Rd w M g l r) (hM : Mem w M) (hl : l.length ≤ 6000) (hx : bx (G k (.lv 7 r)) (fun p => G k (.chain [p.1] p.2)) = some x) :
    Calls Tryz.prog 256 #[.pointer (some ⟨g, 0, none⟩)] w (GEnd w M g l x) := by
  obtain ⟨i0, hi, hz⟩ := Option.map_eq_some_iff.1 Tryz.infoE
  simp only [Prod.mk.injEq] at hz
  obtain ⟨hz0, hz1, hz2⟩ := hz
  have HI := Hid.mk (And.intro hi (And.intro hz0 (And.intro hz1 hz2)))
  clear hi hz0 hz1 hz2
  rcases bx_some hx with ⟨q, h1, rfl⟩ | ⟨⟨a, r1⟩, h1, h2⟩
  · have H1 := Hid.mk h1
    clear h1 hx
    go_enter Tryz.func256, Tryz.ntmps256
    go_wp2_with fail
    refine ((hS k (Nat.le_refl _)).err (hR.alloc _) (hM.alloc _) hl H1.out).mono ?_
    rintro e w1 ⟨rfl, hk1⟩
    go_wp2_with fail
    exact ⟨rfl, ((Kp.refl _ _).alloc _).trans hk1, rfl⟩
  · have H1 := Hid.mk h1
    have H2 := Hid.mk h2
    have HL := Hid.mk ((G_fwd _ _ _ h1).2 rfl)
    clear h1 h2 hx
    go_enter Tryz.func256, Tryz.ntmps256
    go_wp2_with fail
    refine ((hS k (Nat.le_refl _)).ok (hR.alloc _) (hM.alloc _) hl H1.out).mono ?_
    rintro e w1 ⟨A1, c1, M1, rfl, hx1, hM1, he1, hR1, hk1⟩
    have hsz : w.heap.size < w1.heap.size := by have := hk1.size; simp at this; omega
    have hgw : g < w.heap.size := hR.box.lt
    have hb8 : Box w1 M1 w.heap.size #[.int .i64 0, .string ⟨#[]⟩, .slice none 0 0] 24 := (Box.new hM _ _).kp hk1 (by simp; omega) he1 (by simp)
    go_wp2_with fail
    go_loopg [3] k (fun kk v3 wr => ∃ ps r' M' g0 cap, G kk (.chain (ps.map (·.1)) r') = some x ∧ kk ≤ k ∧ v3 = .slice (some ⟨g0, 0, none⟩) ps.length cap ∧ Sl wr M' 24 3 g0 ps.length cap (flat ps) ∧ AllV M' ps ∧ Box wr M' w.heap.size #[.int .i64 0, .string ⟨#[]⟩, .slice none 0 0] 24 ∧ Mem wr M' ∧ Ext w.heap.size M M' ∧ Rd wr M' g l r' ∧ Kp [g] w wr ∧ ps.length + r'.length ≤ l.length ∧ 0 < ps.length ∧ w.heap.size < g0)
    case atStart =>
      have hr := hR.suf.length_le
      have := HL.out
      simp only [Task.r] at this
      refine ⟨[(a, A1, c1)], r1, M1, w1.heap.size, 1, H2.out, Nat.le_refl _, rfl, ?_, AllV.one hx1, hb8.alloc _, hM1.alloc _, he1.low (by simp), hR1.alloc _, ?_, by simp; omega, by simp, hsz⟩
      · exact Sl.lit (heap_alloc_new _ _) hM1.new rfl (by unfold maxLen; simp)
      · exact (((Kp.refl _ _).alloc _).trans hk1).alloc _
    case round =>
      obtain ⟨ps, r', M', g0, cap, hG, hkk, rfl, hsl, hav, hb8', hM', he', hR', hK, hlen, hpos, hg0⟩ := hrel
      clear hb8 hx1 hM1 he1 hR1 hk1
      cases gk with
      | zero => simp [G] at hG
      | succ kk =>
        simp only [G] at hG
        rcases lf_some hG with ⟨q, h1, rfl⟩ | ⟨⟨t, r2⟩, h1, h2⟩
        · obtain ⟨rfl, h3⟩ := token_err h1
          have H3 := Hid.mk h3
          clear h1 h3 hG
          go_wp2_with fail
          refine (token_no hR' hl H3.out).mono ?_
          rintro e w2 ⟨rfl, h4, hk2⟩
          go_wp2_with fail
          exact ⟨rfl, hK.trans hk2, rfl⟩
        · dsimp only at h2
          obtain ⟨rfl, h3⟩ := token_ok h1
          have H3 := Hid.mk h3
          have HT := Hid.mk (token_len h1).length_le
          by_cases hb : begT t = true
          · rw [if_pos hb] at h2
            have H2' := Hid.mk h2
            clear h1 h2 h3 hG
            go_wp2_with fail
            refine (token_yes hR' hl H3.out).mono ?_
            rintro e w2 ⟨rfl, hR2, hk2⟩
            go_wp2_with fail
            refine (begins_calls _ _).mono ?_
            rintro e w2' ⟨rfl, rfl⟩
            have hsl' := hsl.same hk2 (by simp; omega)
            have hb8'' := hb8'.same hk2 (by simp; omega)
            rcases bx_some H2'.out with ⟨q, h6, rfl⟩ | ⟨⟨b, r3⟩, h6, h7⟩
            · have H6 := Hid.mk h6
              clear h6
              go_wp2_with fail
              refine ((hS kk (by omega)).err hR2 (hM'.kp hk2 (by simpa using hR2.box.out)) hl H6.out).mono ?_
              rintro e w3 ⟨rfl, hk3⟩
              go_wp2_with fail
              exact ⟨rfl, (hK.trans hk2).trans hk3, rfl⟩
            · have H6 := Hid.mk h6
              have H7 := Hid.mk h7
              have HL3 := Hid.mk ((G_fwd _ _ _ h6).2 rfl)
              clear h6 h7 H2'
              go_wp2_with fail
              refine ((hS kk (by omega)).ok hR2 (hM'.kp hk2 (by simpa using hR2.box.out)) hl H6.out).mono ?_
              rintro e w3 ⟨A3, c3, M3, rfl, hx3, hM3, he3, hR3, hk3⟩
              have hsl'' := hsl'.kp hk3 (by simp; omega) he3 hsl'.lt
              have hb8''' := hb8''.kp hk3 (by simp; omega) he3 hb8''.lt
              have hz3 := hsl''.lt
              have hlen' : ps.length ≤ 6000 := by omega
              have HA := Hid.mk (And.intro hsl'' (And.intro hb8''' (And.intro hav (And.intro hx3 (And.intro hM3 (And.intro he' (And.intro he3 (And.intro hK (And.intro hk2 (And.intro hk3 hR3))))))))))
              clear hsl hb8' hav hM' he' hR' hK hsl' hb8'' hR2 hk2 hsl'' hb8''' hx3 hM3 he3 hk3 hR3
              have hbig : (ps.length + 1 ≤ maxLen) ∧ (ps.length + 1) * 48 ≤ 140737488355328 := by unfold maxLen; omega
              have HB := Hid.mk hbig
              clear hbig
              go_wp2_with (at_builtin; go_must (refine wpList_append_lies _ rfl (.tmp 13) (.tmp 15) 22 rfl 0 24 i0 _ 3 48 Tryz.underlying22 HI.out.1 HI.out.2.1 HI.out.2.2.1 HI.out.2.2.2 rfl (Nat.succ_pos 2) _ ps.length (flat ps) rfl ((HA.out.1.alloc _).alloc _).own ⟨w3.heap.size + 1, 0, none⟩ 1 1 (flat [(b, A3, c3)]) rfl rfl (flat_cells (row_at _ _ _)) flat_one Nat.one_pos HB.out.1 HB.out.2 (Nat.zero_le _) (w3.heap.size + 2) (size_at _ _ _) ?_); intro g1 cap1 w5 hown5 hgr5 hat5 hlt5)
              obtain ⟨hsl, hb8, hav, hx3, hM3, he', he3, hK, hk2, hk3, hR3⟩ := HA.out
              have hk5 := Kp.of_grown hgr5
              have hat : (some g0 : Option Nat) = some g1 ∨ g1 = w3.heap.size + 2 := hat5
              clear hat5
              simp only [Option.some.injEq] at hat
              have hlt0 := hsl.lt
              have hlt8 := hb8.lt
              go_roundg kk
              case measure => omega
              case rel =>
                have hl3 := HL3.out
                have ht2 := HT.out
                simp only [Task.r] at hl3 ht2
                refine ⟨ps ++ [(b, A3, c3)], r3, M3, g1, cap1, by simpa using H7.out, by omega, by simp, ⟨by rw [flat_append, List.length_append]; exact hown5, ?_⟩, (hav.ext he3).snoc hx3, ((hb8.alloc _).alloc _).same hk5 (by simp; omega), ((hM3.alloc _).alloc _).kp hk5 (by simpa using hsl.out), ?_, ((hR3.alloc _).alloc _).same hk5 (by simp; omega), ?_, by simp; omega, by simp, ?_⟩
                · rcases hat with h | h
                  · rw [← h]; exact hsl.out
                  · rw [h]; exact hM3.ge (by omega)
                · exact he'.trans (he3.low (Nat.le_trans hK.size hk2.size)) (Nat.le_refl _)
                · exact ((((hK.trans hk2).trans hk3).alloc _).alloc _).inner hk5 (by simp; omega)
                · omega
          · replace hb := Bool.eq_false_iff.2 hb
            rw [if_neg (by rw [hb]; simp)] at h2
            injection h2 with h2
            have H2' := Hid.mk h2
            clear h1 h2 h3 hG
            have hlen' : ps.length ≤ 6000 := by omega
            go_wp2_with fail
            refine (token_yes hR' hl H3.out).mono ?_
            rintro e w2 ⟨rfl, hR2, hk2⟩
            go_wp2_with fail
            refine (begins_calls _ _).mono ?_
            rintro e w2' ⟨rfl, rfl⟩
            have hsl' := hsl.same hk2 (by simp; omega)
            have hb8'' := hb8'.same hk2 (by simp; omega)
            obtain ⟨⟨p0, p1, p2⟩, f0, f1, f2⟩ := hb8''.three
            have HA := Hid.mk (And.intro hsl' (And.intro hb8'' (And.intro hav (And.intro hM' (And.intro he' (And.intro hK (And.intro hR2 hk2)))))))
            by_cases h1 : ps.length = 1
            · obtain ⟨⟨a1, A1', c1'⟩, rfl⟩ : ∃ p, ps = [p] := by
                match ps, h1 with
                | [p], _ => exact ⟨p, rfl⟩
              have q0 := hsl'.cell (j := 0) (v := .int .i64 a1.op) rfl
              have q1 := hsl'.cell (j := 1) (v := .string (bs a1.s)) rfl
              have q2 := hsl'.cell (j := 2) (v := .slice A1' a1.l.length c1') rfl
              clear hsl hb8' hav hM' he' hR' hK hsl' hb8'' hR2 hk2
              go_wp2_with fail
              obtain ⟨hsl, hb8, hav, hM', he', hK, hR2, hk2⟩ := HA.out
              have hk3 := Kp.set3 (b := w.heap.size) (x' := .int .i64 a1.op) (y' := .string (bs a1.s)) (z' := .slice A1' a1.l.length c1') (Kp.refl [w.heap.size] w2) (.inl (by simp))
              obtain ⟨⟨r0, r1, r2⟩, _, _, _⟩ := (hb8.set3 (x' := .int .i64 a1.op) (y' := .string (bs a1.s)) (z' := .slice A1' a1.l.length c1')).three
              refine bodyPost_ret (v := .agg #[.int .i64 a1.op, .string (bs a1.s), .slice A1' a1.l.length c1']) (by simp [results, Tryz.results256, go_sem, r0, r1, r2]) rfl ?_
              rw [← H2'.out]
              exact ⟨(hK.trans hk2).set3 (.inr (Nat.le_refl _)), _, _, M', rfl, hav 0 (by simp), (hM'.kp hk2 (by simpa using hR2.box.out)).kp hk3 (by simpa using hb8.out), he', hR2.same hk3 (by simp; omega)⟩
            · have h1b : ((ps.length : Int) == 1) = false := by rw [beq_eq_false_iff_ne]; omega
              have h1' := Hid.mk h1
              clear hsl hb8' hav hM' he' hR' hK hsl' hb8'' hR2 hk2 h1
              go_wp2_with fail
              obtain ⟨hsl, hb8, hav, hM', he', hK, hR2, hk2⟩ := HA.out
              have hk3 := Kp.set3 (b := w.heap.size) (x' := .int .i64 (4)) (y' := .string ⟨#[]⟩) (z' := .slice (some ⟨g0, 0, none⟩) ps.length cap) (Kp.refl [w.heap.size] w2) (.inl (by simp))
              obtain ⟨⟨r0, r1, r2⟩, _, _, _⟩ := (hb8.set3 (x' := .int .i64 (4)) (y' := .string ⟨#[]⟩) (z' := .slice (some ⟨g0, 0, none⟩) ps.length cap)).three
              refine bodyPost_ret (v := .agg #[.int .i64 (4), .string (bs []), .slice (some ⟨g0, 0, none⟩) ps.length cap]) (by simp [results, Tryz.results256, go_sem, r0, r1, r2, bs]) rfl ?_
              have hM2 := hM'.kp hk2 (by simpa using hR2.box.out)
              obtain ⟨M4, hxn, hM4, he4, hno⟩ := hsl.node rfl hM2 hav (4) [] w.heap.size (by omega)
              rw [← H2'.out, one_ne _ (by simpa using h1'.out)]
              refine ⟨(hK.trans hk2).set3 (.inr (Nat.le_refl _)), some ⟨g0, 0, none⟩, cap, M4, by simp [E.op, E.s, E.l], hxn, hM4.kp hk3 (by simpa using hno _ (by omega) hb8.out), he'.trans he4 (Nat.le_refl _), ?_⟩
              have hR4 := hR2.same hk3 (by simp; omega)
              exact ⟨⟨hR4.box.blk, hno _ (by omega) hR4.box.out⟩, hR4.suf⟩
end Go.Proofs.YtgdnhlckodhhgaaGreatDoor

/-
  Maps in memory, said of worlds that are variables: ranging over a map, storing a new key.
-/
namespace Go.Proofs.YtgdnhlckodhhgaaGreatDoor
open Go.RowKit
set_option linter.unusedVariables false
section
variable {P : Program} {w : World} {M : Heap}
/-- A block that is no row of cells (a map, an iterator), by what it holds; M says nothing of it. -/
structure Blk (w : World) (M : Heap) (b : Nat) (o : Obj) : Prop where
  blk : w.heap[b]? = some o
  out : M b = none
theorem Blk.lt {b : Nat} {o : Obj} (h : Blk w M b o) : b < w.heap.size := (Array.getElem?_eq_some_iff.1 h.blk).1
theorem Blk.same {b : Nat} {o : Obj} {w1 : World} {S : List Nat} (h : Blk w M b o) (k : Kp S w w1) (hs : b ∉ S) : Blk w1 M b o := ⟨(k.block b h.lt hs).trans h.blk, h.out⟩
theorem Blk.kp {b n : Nat} {o : Obj} {w1 : World} {M1 : Heap} {S : List Nat} (h : Blk w M b o) (k : Kp S w w1) (hs : b ∉ S) (e : Ext n M M1) (hn : b < n) : Blk w1 M1 b o := ⟨(k.block b h.lt hs).trans h.blk, e.no h.out hn⟩
theorem Blk.alloc {b : Nat} {o : Obj} (h : Blk w M b o) (o' : Obj) : Blk (w.alloc o') M b o := ⟨(Below.heap_alloc _ _ _ h.lt).trans h.blk, h.out⟩
theorem Blk.drewN {b : Nat} {o : Obj} (h : Blk w M b o) (n : Nat) : Blk (w.drewN n) M b o := ⟨h.blk, h.out⟩
theorem Blk.new (h : Mem w M) (o : Obj) : Blk (w.alloc o) M w.heap.size o := ⟨heap_alloc_new w _, h.new⟩
theorem Kp.setObj {w w1 : World} {S : List Nat} (h : Kp S w w1) {r : Nat} (o : Obj) (hr : r ∈ S ∨ w.heap.size ≤ r) : Kp S w { w1 with heap := w1.heap.setIfInBounds r o } :=
  ⟨h.os, h.tape, h.output, by simpa using h.size, fun b hb hn => by
    show (w1.heap.setIfInBounds r o)[b]? = _
    rw [Array.getElem?_setIfInBounds_ne (by rintro rfl; exact hr.elim hn (fun y => by omega))]
    exact h.block b hb hn⟩
/-- 'next' over a map that stands: all has been handed out, or one entry that has not been comes. -/
theorem run_next (ty : TypeId) (bm since c0 r : Nat) (seen : Array Nat) (es : Array MapEntry) (clock : Nat) (hb : w.heap[bm]? = some (.map es clock)) (hr : w.heap[r]? = some (.mapIter (some bm) since seen c0))
    (hold : ∀ x ∈ es.toList, x.born < since) (hsc : since ≤ c0) :
    ((leftOf es seen).size = 0 ∧ (Instr.next (.pointer (some ⟨r, 0, none⟩)) false ty).run P w = .ok (.tuple #[.bool false]) w) ∨
    ∃ e ∈ (leftOf es seen).toList, ∃ w1 : World, Kp [r] w w1 ∧ w1.heap[r]? = some (.mapIter (some bm) since (seen.push e.born) clock) ∧ w1.heap.size = w.heap.size ∧
      (Instr.next (.pointer (some ⟨r, 0, none⟩)) false ty).run P w = .ok (.tuple #[.bool true, e.key, e.val]) w1 := by
  simp only [Instr.next, getObj, Sem.run_bind, Sem.run, hr, hb, Result.andThen, next_test_false seen es since c0 hold hsc, Bool.false_eq_true, if_false]
  unfold leftOf
  have hmem : ∀ x ∈ (Array.filter (fun e => !seen.contains e.born) es).toList, x.born < since := fun x hx => hold x (by simp at hx ⊢; exact hx.1)
  generalize Array.filter (fun e => !seen.contains e.born) es = L at hmem ⊢
  have e1 : L.filter (fun x => decide (x.born < since)) = L := Array.filter_eq_self.2 (fun x hx => by simpa using hmem x (by simpa using hx))
  have e2 : L.filter (fun x => decide (x.born ≥ since)) = #[] := by
    rw [Array.filter_eq_empty_iff]
    intro x hx
    have := hmem x (by simpa using hx)
    simp
    omega
  simp only [e1, e2, Array.append_empty]
  by_cases h0 : L.size = 0
  · left
    have : L = #[] := Array.eq_empty_of_size_eq_zero h0
    subst this
    refine ⟨rfl, ?_⟩
    simp [choose, Sem.run, Question.forced]
  · right
    have hne : L.isEmpty = false := by simp [Array.isEmpty, h0]
    simp only [hne, Bool.false_eq_true, if_false, Array.empty_append, Array.size_map]
    have hch : ∃ (j n : Nat), j < L.size ∧ (choose (Question.mapNext L.size)).run P w = .ok j (w.drewN n) := by
      by_cases hf : L.size ≤ 1
      · exact ⟨0, 0, by omega, by simp [choose, Sem.run, Question.forced, hf]; rfl⟩
      · exact ⟨_, 1, Nat.mod_lt _ (by omega), by
          simp only [choose, Sem.run, Question.forced, decide_eq_true_eq, hf, if_false, Question.cut]
          rfl⟩
    obtain ⟨j, n, hj, hrun⟩ := hch
    have hlt : r < w.heap.size := (Array.getElem?_eq_some_iff.1 hr).1
    have hr' : (w.drewN n).heap[r]? = some (.mapIter (some bm) since seen c0) := hr
    refine ⟨L[j], by simp, { (w.drewN n) with heap := (w.drewN n).heap.setIfInBounds r (.mapIter (some bm) since (seen.push L[j].born) clock) }, ((Kp.refl [r] w).drewN n).setObj _ (.inl (by simp)), ?_, ?_, ?_⟩
    · show ((w.drewN n).heap.setIfInBounds r _)[r]? = _
      simp only [Array.getElem?_setIfInBounds_self]
      rw [if_pos (show r < (w.drewN n).heap.size from hlt)]
    · show ((w.drewN n).heap.setIfInBounds r _).size = _
      simp only [Array.size_setIfInBounds]
      rfl
    · simp only [hrun, Array.getElem?_map, Array.getElem?_eq_getElem hj, Option.map_some, Sem.run_bind, setObj, Sem.run, hr', Result.andThen]
      rfl
theorem run_entry (bm since r : Nat) (seen : Array Nat) (es : Array MapEntry) (clock : Nat) (e : MapEntry) (hb : w.heap[bm]? = some (.map es clock)) (hr : w.heap[r]? = some (.mapIter (some bm) since (seen.push e.born) clock)) (he : e ∈ es.toList) (hn : (es.toList.map (·.born)).Nodup) :
    (Instr.entry (.pointer (some ⟨r, 0, none⟩))).run P w = .ok (.tuple #[e.key, e.val]) w := by
  have hf : es.find? (·.born == e.born) = some e := by rw [← Array.find?_toList]; exact find_born e es.toList hn he
  simp only [Instr.entry, getObj, Sem.run_bind, Sem.run, hr, hb, Result.andThen, Array.back?_push, bne_self_eq_false, Bool.false_eq_true, if_false, hf]
  rfl
/-- A store at a plain key that is not there, into the heap's last block. -/
theorem run_insert_new {mty kt et : TypeId} {d : TypeDesc} (W : World) (r : Nat) (hrW : r = W.heap.size) (es : Array MapEntry) (clock : Nat) (key val : Value) (hm : P.underlying mty = some (.map kt et)) (hk : P.underlying kt = some d) (hkey : MapKept.IsKey d key)
    (hes : ∀ x ∈ es.toList, MapKept.IsKey d x.key ∧ x.key ≠ key) :
    (Instr.mapUpdate mty (.map (some r)) key val).run P (W.alloc (.map es clock)) = .ok () (W.alloc (.map (es.push { key, val, born := clock }) (clock + 1))) := by
  subst hrW
  have hb : (W.alloc (.map es clock)).heap[W.heap.size]? = some (.map es clock) := heap_alloc_new _ _
  have hf : Instr.findNow d key es.toList 0 = some none := by
    rcases MapKept.findNow_spec hkey es.toList 0 (fun x hx => (hes x hx).1) with ⟨h, _⟩ | ⟨j, e, _, h2, h3⟩
    · exact h
    · exact absurd h3 (hes e (List.mem_of_getElem? h2)).2
  have hc : (Instr.checkKey false 10000 kt key).run P (W.alloc (.map es clock)) = .ok () (W.alloc (.map es clock)) := MapKept.run_checkKey hk hkey false 9999
  simp only [Instr.mapUpdate, Sem.run_bind, run_underlying hm, MapKept.run_getObj_map hb, hc, MapKept.run_findKey hk hf, MapKept.run_setObj_map _ hb, Result.andThen]
  congr 1
  show ({ (W.alloc (.map es clock)) with heap := (W.heap.push (.map es clock)).setIfInBounds W.heap.size (.map (es.push { key, val, born := clock }) (clock + 1)) } : World) = _
  have hp : ∀ (h : Array Obj) (x y : Obj), (h.push x).setIfInBounds h.size y = h.push y := by
    intro h x y
    apply Array.toList_inj.1
    simp
  rw [hp]
  rfl
end
end Go.Proofs.YtgdnhlckodhhgaaGreatDoor
