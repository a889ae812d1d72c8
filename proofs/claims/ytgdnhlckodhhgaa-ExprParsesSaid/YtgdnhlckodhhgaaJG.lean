/-
  The reference's reader: its state between tokens; on to the next token; how each of its functions ends.
-/
import Derived.Test.YtgdnhlckodhhgaaJD3
import Derived.Test.YtgdnhlckodhhgaaJQ
import Derived.Test.YtgdnhlckodhhgaaJA6
import Derived.Test.YtgdnhlckodhhgaaJC
namespace Go.Proofs.Ytgdnhlckodhhgaa
open Go.RowKit
set_option linter.unusedVariables false
theorem two_boxes {w : World} {M : Heap} (hM : Mem w M) (c d : Array Value) (t u : TypeId) : Box ((w.alloc (.cells c t)).alloc (.cells d u)) M w.heap.size c t ∧ Box ((w.alloc (.cells c t)).alloc (.cells d u)) M (w.heap.size + 1) d u := by
  refine ⟨(Box.new hM c t).alloc _, ?_⟩
  have h := Box.new (hM.alloc (.cells c t)) d u
  have e : (w.alloc (.cells c t)).heap.size = w.heap.size + 1 := by simp
  rwa [e] at h
/-- The token at hand begins at sk r. -/
def Tok (l r : Bs) (p nx kd : Int) (sy : ByteArray) : Prop :=
  r <:+ l ∧ p = (at_ l (sk r) : Nat) ∧ kd = rkind (tk (sk r)) ∧ ∀ u, tk (sk r) = some u → nx = (at_ l ((sk r).drop u.length) : Nat) ∧ (rkind (some u) = 1 → sy = bs (symOf u))
theorem at_drop {l q : Bs} {n : Nat} (h : q <:+ l) (hn : n ≤ q.length) : at_ l (q.drop n) = at_ l q + n := by
  have := h.length_le
  simp [at_]; omega
theorem adv_tok {w w' : World} {M : Heap} {g : Nat} {l r : Bs} {bd : Bool} (hr : r <:+ l) (h : AdvEnd w w' M g l (sk r) bd) : ∃ p nx kd sy, Kp [g] w w' ∧ PB w' M g l p nx kd sy bd ∧ Tok l r p nx kd sy := by
  obtain ⟨hk, nx, sy, hb, hu⟩ := h
  refine ⟨_, nx, _, sy, hk, hb, hr, rfl, rfl, fun u h => ?_⟩
  obtain ⟨h1, h2⟩ := hu u h
  refine ⟨?_, ?_⟩
  · rw [h1, at_drop ((sk_suffix r).trans hr) (tk_len h).2.1]
  · rw [h] at h2; exact h2
theorem sk_idem {r : Bs} : sk (sk r) = sk r := sk_sk r
theorem adv_calls {g : Nat} {l r u : Bs} {w : World} {M : Heap} {p nx kd : Int} {sy : ByteArray} {bd : Bool} (hl : l.length ≤ 6000) (hT : Tok l r p nx kd sy) (hu : tk (sk r) = some u) (h : PB w M g l p nx kd sy bd) :
    Calls Try.prog 22 #[.pointer (some ⟨g, 0, none⟩)] w fun e w' => ∃ p' nx' kd' sy', e = .returned (.tuple #[]) ∧ Kp [g] w w' ∧ PB w' M g l p' nx' kd' sy' bd ∧ Tok l ((sk r).drop u.length) p' nx' kd' sy' := by
  obtain ⟨h1, h2, h3, h4⟩ := hT
  obtain ⟨h5, _⟩ := h4 u hu
  have hs : (sk r).drop u.length <:+ l := ((List.drop_suffix _ _).trans (sk_suffix r)).trans h1
  rw [h5] at h
  refine (advance_calls hs hl h).mono fun e w' ⟨e1, e2⟩ => ?_
  obtain ⟨p', nx', kd', sy', hk, hb, ht⟩ := adv_tok hs e2
  exact ⟨p', nx', kd', sy', e1, hk, hb, ht⟩
theorem tok_sk {l r : Bs} {p nx kd : Int} {sy : ByteArray} (h : Tok l r p nx kd sy) : Tok l (sk r) p nx kd sy := by
  obtain ⟨h1, h2, h3, h4⟩ := h
  refine ⟨(sk_suffix r).trans h1, ?_, ?_, ?_⟩ <;> rw [sk_sk] <;> assumption
theorem tok_some {l r u : Bs} {p nx kd : Int} {sy : ByteArray} (h : Tok l r p nx kd sy) (hu : tk (sk r) = some u) : kd = rkind (some u) := hu ▸ h.2.2.1
theorem tok_none {l r : Bs} {p nx kd : Int} {sy : ByteArray} (h : Tok l r p nx kd sy) (hu : tk (sk r) = none) : kd = 4 := by have := h.2.2.1; rw [hu] at this; exact this
/-- What holds behind a function of the reader that has answered x. -/
def RGh (M' : Heap) (l : Bs) (x : Ex (E × Bs)) (o : Int) (sb : ByteArray) (A : Option Addr) (n c : Nat) (p nx kd : Int) (sy : ByteArray) (bd : Bool) : Prop := match x with
  | .ok (a, r') => o = a.op ∧ sb = bs a.s ∧ n = a.l.length ∧ ExV M' a A c ∧ Tok l r' p nx kd sy ∧ bd = false
  | .error q => p = (at_ l q : Nat) ∧ (bd = true ∨ kd = 4)
/-- How a function of the reader ends: with a node (any one, where the text is wrong), the reader's state known. -/
def REnd (w : World) (M : Heap) (g : Nat) (l : Bs) (x : Ex (E × Bs)) (e : Ending) (w' : World) : Prop :=
  ∃ o sb A n c p nx kd sy bd M', e = .returned (.agg #[.int .i64 o, .string sb, .slice A n c]) ∧ Kp [g] w w' ∧ PB w' M' g l p nx kd sy bd ∧ Mem w' M' ∧ Ext w.heap.size M M' ∧ RGh M' l x o sb A n c p nx kd sy bd
/-- A function of the reader does what G says, with k rounds. -/
def RSpec (f : FuncId) (xs : List Value) (n k : Nat) : Prop := ∀ (g : Nat) (l r : Bs) (w : World) (M : Heap) (x : Ex (E × Bs)) (p nx kd : Int) (sy : ByteArray), Tok l r p nx kd sy → PB w M g l p nx kd sy false → Mem w M → l.length ≤ 6000 → G k (.lv n r) = some x →
  Calls Try.prog f (.pointer (some ⟨g, 0, none⟩) :: xs).toArray w (REnd w M g l x)
/-- The cells of a node, whatever it is. -/
structure RT where
  o : Int
  s : ByteArray
  A : Option Addr
  n : Nat
  c : Nat
def RT.v (t : RT) : Value := .agg #[.int .i64 t.o, .string t.s, .slice t.A t.n t.c]
def raw (ts : List RT) : List Value := ts.flatMap fun t => [.int .i64 t.o, .string t.s, .slice t.A t.n t.c]
def rt (p : E × Option Addr × Nat) : RT := ⟨p.1.op, bs p.1.s, p.2.1, p.1.l.length, p.2.2⟩
theorem raw_flat (ps : List (E × Option Addr × Nat)) : raw (ps.map rt) = flat ps := by simp [raw, flat, rt, List.flatMap_map]
theorem raw_append (ts us : List RT) : raw (ts ++ us) = raw ts ++ raw us := by simp [raw]
theorem raw_length (ts : List RT) : (raw ts).length = ts.length * 3 := by
  induction ts with
  | nil => rfl
  | cons p ps ih => simp only [raw, List.flatMap_cons, List.length_append, List.length_cons, List.length_nil] at *; omega
theorem raw_cells {w : World} {b : Nat} {u : RT} {t : TypeId} (h : w.heap[b]? = some (.cells #[.int .i64 u.o, .string u.s, .slice u.A u.n u.c] t (0, 0))) :
    ∀ j v, (raw [u])[j]? = some v → w.cell? ((⟨b, 0, none⟩ : Addr).add j) = some v := by
  intro j v hv
  have e : (⟨b, 0, none⟩ : Addr).add j = ⟨b, j, none⟩ := by unfold Addr.add; split <;> simp_all
  rw [e]
  simp only [World.cell?, h, Option.isSome_none, Bool.false_eq_true, if_false]
  match j, hv with
  | 0, hv => exact hv
  | 1, hv => exact hv
  | 2, hv => exact hv
  | j + 3, hv => simp [raw] at hv
theorem raw_one {u : RT} : ∀ v ∈ raw [u], v.oneCell' = true := by
  intro v hv
  simp [raw] at hv
  rcases hv with rfl | rfl | rfl <;> rfl
/-- What holds behind the last round of a list's loop. -/
def XGh (M' : Heap) (l : Bs) (x : Ex (E × Bs)) (op : Int) (ts : List RT) (p nx kd : Int) (sy : ByteArray) (bd : Bool) : Prop :=
  (∃ ps r', ts = ps.map rt ∧ AllV M' ps ∧ x = .ok (one op (ps.map (·.1)), r') ∧ Tok l r' p nx kd sy ∧ bd = false) ∨ ∃ q, x = .error q ∧ p = (at_ l q : Nat) ∧ (bd = true ∨ kd = 4)
theorem xgh_one {M' : Heap} {l : Bs} {x : Ex (E × Bs)} {op : Int} {t : RT} {p nx kd : Int} {sy : ByteArray} {bd : Bool} (h : XGh M' l x op [t] p nx kd sy bd) : RGh M' l x t.o t.s t.A t.n t.c p nx kd sy bd := by
  rcases h with ⟨ps, r', h1, h2, rfl, h3, h4⟩ | ⟨q, rfl, h3, h4⟩
  · match ps, h1 with
    | [(a, A, c)], h1 =>
      simp only [List.map_cons, List.map_nil, List.cons.injEq, and_true] at h1
      subst h1
      exact ⟨rfl, rfl, rfl, h2 0 (by simp), h3, h4⟩
  · exact ⟨h3, h4⟩
theorem xgh_many {w : World} {M' : Heap} {l : Bs} {x : Ex (E × Bs)} {op : Int} {ts : List RT} {p nx kd : Int} {sy : ByteArray} {bd : Bool} {g0 cap m : Nat} (h : XGh M' l x op ts p nx kd sy bd) (hn : ts.length ≠ 1) (hsl : Sl w M' 25 3 g0 ts.length cap (raw ts)) (hM : Mem w M') (hm : m ≤ g0) :
    ∃ M4, RGh M4 l x op ⟨#[]⟩ (some ⟨g0, 0, none⟩) ts.length cap p nx kd sy bd ∧ Mem w M4 ∧ Ext m M' M4 ∧ ∀ b, b ≠ g0 → M' b = none → M4 b = none := by
  rcases h with ⟨ps, r', rfl, h2, rfl, h3, h4⟩ | ⟨q, rfl, h3, h4⟩
  · rw [raw_flat] at hsl
    simp only [List.length_map] at hsl hn ⊢
    obtain ⟨M4, hx, hM4, he4, hno⟩ := hsl.node rfl hM h2 op [] m hm
    refine ⟨M4, ?_, hM4, he4, hno⟩
    have e : one op (ps.map (·.1)) = .mk op [] (ps.map (·.1)) := one_ne _ (by simpa using hn)
    rw [e]
    exact ⟨rfl, rfl, by simp [E.l], hx, h3, h4⟩
  · exact ⟨M', ⟨h3, h4⟩, hM, Ext.refl _ _, fun _ _ h => h⟩
end Go.Proofs.Ytgdnhlckodhhgaa

/-
  The reference's reader: whether a thing begins; things one behind the other.
-/
namespace Go.Proofs.Ytgdnhlckodhhgaa
open Go.RowKit
set_option linter.unusedVariables false
set_option linter.unusedSimpArgs false
set_option maxHeartbeats 400000 in
theorem risAtom_calls {g : Nat} {l : Bs} {w : World} {M : Heap} {p nx kd : Int} {sy : ByteArray} {bd : Bool} (h : PB w M g l p nx kd sy bd) :
    Calls Try.prog 97 #[.pointer (some ⟨g, 0, none⟩)] w fun e w' => e = .returned (.bool (atomI kd)) ∧ w = w' := by
  obtain ⟨⟨c0, c1, c2, c3, c4, c5⟩, f1, f2, f3, f4, f5⟩ := h.cells
  clear c0 c1 c2 c4 c5 f1 f2 f3 f4 f5 h
  go_enter Try.func97, Try.ntmps97
  go_wp2_with fail
  all_goals
    go_ret
    refine ⟨ret_bool ?_, rfl⟩
    simp [atomI, *]
/-- What holds at the head of a list's loop. -/
def LGh (M' : Heap) (l : Bs) (x : Ex (E × Bs)) (k : Nat) (mk : List E → Bs → Task) (ts : List RT) (p nx kd : Int) (sy : ByteArray) (bd : Bool) : Prop :=
  (∃ ps r', ts = ps.map rt ∧ AllV M' ps ∧ G k (mk (ps.map (·.1)) r') = some x ∧ Tok l r' p nx kd sy ∧ bd = false ∧ ps.length + r'.length ≤ l.length) ∨ ∃ q, x = .error q ∧ p = (at_ l q : Nat) ∧ (bd = true ∨ kd = 4) ∧ ts.length ≤ l.length + 1
theorem LGh.len {M' : Heap} {l : Bs} {x : Ex (E × Bs)} {k : Nat} {mk : List E → Bs → Task} {ts : List RT} {p nx kd : Int} {sy : ByteArray} {bd : Bool} (h : LGh M' l x k mk ts p nx kd sy bd) : ts.length ≤ l.length + 1 := by
  rcases h with ⟨ps, r', rfl, _, _, _, _, h⟩ | ⟨_, _, _, _, h⟩
  · simp; omega
  · exact h
/-- The first one of a list. -/
theorem lgh_first {M' : Heap} {l r : Bs} {z x : Ex (E × Bs)} {k : Nat} {mk : List E → Bs → Task} {t : RT} {p nx kd : Int} {sy : ByteArray} {bd : Bool} (hr : r <:+ l) (hf : ∀ a r1, z = .ok (a, r1) → r1.length < r.length)
    (h : RGh M' l z t.o t.s t.A t.n t.c p nx kd sy bd) (h2 : Nx z (fun a => G k (mk [a.1] a.2)) x) : LGh M' l x k mk [t] p nx kd sy bd := by
  cases z with
  | ok p =>
    obtain ⟨a, r1⟩ := p
    obtain ⟨h1, h3, h4, h5, h6, h7⟩ := h
    refine .inl ⟨[(a, t.A, t.c)], r1, ?_, AllV.one h5, h2, h6, h7, ?_⟩
    · simp only [List.map_cons, List.map_nil, rt, ← h1, ← h3, ← h4]
    · have := hf a r1 rfl; have := hr.length_le; simp; omega
  | error q =>
    obtain ⟨h1, h3⟩ := h
    exact .inr ⟨q, h2, h1, h3, by simp⟩
/-- One more of a list. -/
theorem lgh_more {m : Nat} {M1 M' : Heap} {l r : Bs} {z x : Ex (E × Bs)} {k : Nat} {mk : List E → Bs → Task} {ps : List (E × Option Addr × Nat)} {t : RT} {p nx kd : Int} {sy : ByteArray} {bd : Bool} (hlen : ps.length + r.length ≤ l.length) (hf : ∀ a r1, z = .ok (a, r1) → r1.length < r.length)
    (hav : AllV M1 ps) (he : Ext m M1 M') (h : RGh M' l z t.o t.s t.A t.n t.c p nx kd sy bd) (h2 : Nx z (fun a => G k (mk (ps.map (·.1) ++ [a.1]) a.2)) x) : LGh M' l x k mk (ps.map rt ++ [t]) p nx kd sy bd := by
  cases z with
  | ok p =>
    obtain ⟨a, r1⟩ := p
    obtain ⟨h1, h3, h4, h5, h6, h7⟩ := h
    refine .inl ⟨ps ++ [(a, t.A, t.c)], r1, ?_, (hav.ext he).snoc h5, by simpa [Nx] using h2, h6, h7, ?_⟩
    · simp only [List.map_append, List.map_cons, List.map_nil, rt, ← h1, ← h3, ← h4]
    · have := hf a r1 rfl; simp; omega
  | error q =>
    obtain ⟨h1, h3⟩ := h
    exact .inr ⟨q, h2, h1, h3, by simp; omega⟩
/-- A chain goes on just if a thing begins. -/
theorem chain_more {M' : Heap} {l : Bs} {x : Ex (E × Bs)} {k' : Nat} {ts : List RT} {p nx kd : Int} {sy : ByteArray} (h : LGh M' l x k' .chain ts p nx kd sy false) (hk : atomI kd = true) :
    ∃ k ps r' z, k' = k + 1 ∧ ts = ps.map rt ∧ AllV M' ps ∧ Tok l (sk r') p nx kd sy ∧ G k (.lv 7 (sk r')) = some z ∧ ps.length + (sk r').length ≤ l.length ∧ Nx z (fun a => G k (.chain (ps.map (·.1) ++ [a.1]) a.2)) x := by
  rcases h with ⟨ps, r', h1, h2, h3, h4, h5, h6⟩ | ⟨q, _, _, h3 | h3, _⟩
  · cases ht : tk (sk r') with
    | none => rw [tok_none h4 ht] at hk; cases hk
    | some t =>
      have hb : begT t = true := by rw [begT_kind ht, ← tok_some h4 ht]; exact hk
      obtain ⟨k, rfl⟩ : ∃ k, k' = k + 1 := by
        cases k' with
        | zero => simp [G] at h3
        | succ k => exact ⟨k, rfl⟩
      simp only [G] at h3
      rw [token_some ht] at h3
      simp only [lf, hb, if_true] at h3
      obtain ⟨z, h7, h8⟩ := bx_any h3
      exact ⟨k, ps, r', z, rfl, h1, h2, tok_sk h4, h7, by have := sk_len r'; omega, h8⟩
  · cases h3
  · rw [h3] at hk; cases hk
theorem chain_over {M' : Heap} {l : Bs} {x : Ex (E × Bs)} {k : Nat} {ts : List RT} {p nx kd : Int} {sy : ByteArray} {bd : Bool} (h : LGh M' l x k .chain ts p nx kd sy bd) (hk : bd = true ∨ atomI kd = false) :
    XGh M' l x 4 ts p nx kd sy bd := by
  rcases h with ⟨ps, r', h1, h2, h3, h4, h5, h6⟩ | ⟨q, h1, h2, h3, _⟩
  · have hk : atomI kd = false := hk.elim (fun h => by rw [h5] at h; cases h) id
    cases k with
    | zero => simp [G] at h3
    | succ k =>
      simp only [G] at h3
      cases ht : tk (sk r') with
      | none =>
        rw [token_none ht] at h3
        simp only [lf, Option.some.injEq] at h3
        exact .inr ⟨sk r', h3.symm, h4.2.1, .inr (tok_none h4 ht)⟩
      | some t =>
        have hb : begT t = false := by rw [begT_kind ht, ← tok_some h4 ht]; exact hk
        rw [token_some ht] at h3
        simp only [lf, hb, Bool.false_eq_true, if_false, Option.some.injEq] at h3
        exact .inl ⟨ps, sk r', h1, h2, h3.symm, tok_sk h4, h5⟩
  · exact .inr ⟨q, h1, h2, h3⟩
set_option maxRecDepth 100000 in
set_option maxHeartbeats 4000000 in
theorem rchain_spec {k : Nat} (hS : ∀ k', k' ≤ k → RSpec 96 [] 7 k') : RSpec 72 [] 6 (k + 1) := by
  intro g l r w M x p nx kd sy hT hB hM hl hx
  simp only [G] at hx
  obtain ⟨z, h1, h2⟩ := bx_any hx
  clear hx
  obtain ⟨i0, hi, hz⟩ := Option.map_eq_some_iff.1 Try.infoE
  simp only [Prod.mk.injEq] at hz
  obtain ⟨hz0, hz1, hz2⟩ := hz
  have HI := Hid.mk (And.intro hi (And.intro hz0 (And.intro hz1 hz2)))
  clear hi hz0 hz1 hz2
  have hf := Hid.mk (fun a r1 (e : z = .ok (a, r1)) => lv_less h1 e)
  have H1 := Hid.mk h1
  have H2 := Hid.mk h2
  have HT := Hid.mk hT
  have hgw : g < w.heap.size := Box.lt hB
  clear h1 h2 hT
  show Calls Try.prog 72 #[.pointer (some ⟨g, 0, none⟩)] w (REnd w M g l x)
  go_enter Try.func72, Try.ntmps72
  go_wp2_with fail
  refine (hS k (Nat.le_refl _) g l r _ M z p nx kd sy HT.out (Box.alloc hB _) (hM.alloc _) hl H1.out).mono ?_
  rintro e w1 ⟨o1, s1, A1, n1, c1, p1, nx1, kd1, sy1, bd1, M1, rfl, hk1, hB1, hM1, he1, hG1⟩
  have hsz : w.heap.size < w1.heap.size := by have := hk1.size; simp at this; omega
  have hb8 : Box w1 M1 w.heap.size #[.int .i64 0, .string ⟨#[]⟩, .slice none 0 0] 25 := (Box.new hM _ _).kp hk1 (by simp; omega) he1 (by simp)
  go_wp2_with fail
  go_loopg [3] k (fun kk v3 wr => ∃ ts M' g0 cap p nx kd sy bd, kk ≤ k ∧ v3 = .slice (some ⟨g0, 0, none⟩) ts.length cap ∧ Sl wr M' 25 3 g0 ts.length cap (raw ts) ∧ Box wr M' w.heap.size #[.int .i64 0, .string ⟨#[]⟩, .slice none 0 0] 25 ∧ Mem wr M' ∧ Ext w.heap.size M M' ∧ PB wr M' g l p nx kd sy bd ∧ Kp [g] w wr ∧ 0 < ts.length ∧ w.heap.size < g0 ∧ Hid (LGh M' l x kk .chain ts p nx kd sy bd))
  case atStart =>
    refine ⟨[⟨o1, s1, A1, n1, c1⟩], M1, w1.heap.size, 1, p1, nx1, kd1, sy1, bd1, Nat.le_refl _, rfl, ?_, hb8.alloc _, hM1.alloc _, he1.low (by simp), Box.alloc hB1 _, ?_, by simp, hsz, Hid.mk ?_⟩
    · exact Sl.lit (heap_alloc_new _ _) hM1.new rfl (by unfold maxLen; simp)
    · exact (((Kp.refl _ _).alloc _).trans hk1).alloc _
    · exact lgh_first HT.out.1 hf.out hG1 H2.out
  case round =>
    obtain ⟨ts, M', g0, cap, p2, nx2, kd2, sy2, bd2, hkk, rfl, hsl, hb8', hM', he', hB', hK, hpos, hg0, hG⟩ := hrel
    clear hb8 hM1 he1 hB1 hk1 hG1 hB hM
    have hb8 := hb8'
    have hB := hB'
    clear hb8' hB'
    obtain ⟨⟨c0, c1, c2, c3, c4, c5⟩, f1, f2, f3, f4, f5⟩ := PB.cells hB
    clear c0 c1 c2 c3 c4 f1 f2 f3 f4 f5
    have HPB := Hid.mk hB
    have hlen := hG.out.len
    cases bd2 with
    | true =>
      have X := Hid.mk (chain_over hG.out (.inl rfl))
      clear hG
      have HA := Hid.mk (And.intro hsl (And.intro hb8 (And.intro hM' (And.intro he' (And.intro hB hK)))))
      obtain ⟨⟨p0, p1, p2'⟩, f0', f1', f2'⟩ := hb8.three
      by_cases h1 : ts.length = 1
      · obtain ⟨t1, rfl⟩ : ∃ t, ts = [t] := by
          match ts, h1 with
          | [t], _ => exact ⟨t, rfl⟩
        have q0 := hsl.cell (j := 0) (v := .int .i64 t1.o) rfl
        have q1 := hsl.cell (j := 1) (v := .string t1.s) rfl
        have q2 := hsl.cell (j := 2) (v := .slice t1.A t1.n t1.c) rfl
        clear hsl hb8 hM' he' hB hK h1
        go_wp2_with (go_at_call 97; refine (risAtom_calls HPB.out).mono ?_; rintro e w' ⟨rfl, rfl⟩)
        obtain ⟨hsl, hb8, hM', he', hB, hK⟩ := HA.out
        have hk3 := Kp.set3 (b := w.heap.size) (x' := .int .i64 t1.o) (y' := .string t1.s) (z' := .slice t1.A t1.n t1.c) (Kp.refl [w.heap.size] wr) (.inl (by simp))
        obtain ⟨⟨r0, r1, r2⟩, _, _, _⟩ := (hb8.set3 (x' := .int .i64 t1.o) (y' := .string t1.s) (z' := .slice t1.A t1.n t1.c)).three
        refine bodyPost_ret (v := .agg #[.int .i64 t1.o, .string t1.s, .slice t1.A t1.n t1.c]) (by simp [results, Try.results72, go_sem, r0, r1, r2]) rfl ?_
        exact ⟨_, _, _, _, _, p2, nx2, kd2, sy2, _, M', rfl, hK.set3 (.inr (Nat.le_refl _)), Box.same hB hk3 (by simp; omega), hM'.kp hk3 (by simpa using hb8.out), he', xgh_one X.out⟩
      · have h1b : ((ts.length : Int) == 1) = false := by rw [beq_eq_false_iff_ne]; omega
        have h1' := Hid.mk h1
        clear hsl hb8 hM' he' hB hK h1
        go_wp2_with (go_at_call 97; refine (risAtom_calls HPB.out).mono ?_; rintro e w' ⟨rfl, rfl⟩)
        obtain ⟨hsl, hb8, hM', he', hB, hK⟩ := HA.out
        have hk3 := Kp.set3 (b := w.heap.size) (x' := .int .i64 (4)) (y' := .string ⟨#[]⟩) (z' := .slice (some ⟨g0, 0, none⟩) ts.length cap) (Kp.refl [w.heap.size] wr) (.inl (by simp))
        obtain ⟨⟨r0, r1, r2⟩, _, _, _⟩ := (hb8.set3 (x' := .int .i64 (4)) (y' := .string ⟨#[]⟩) (z' := .slice (some ⟨g0, 0, none⟩) ts.length cap)).three
        refine bodyPost_ret (v := .agg #[.int .i64 (4), .string ⟨#[]⟩, .slice (some ⟨g0, 0, none⟩) ts.length cap]) (by simp [results, Try.results72, go_sem, r0, r1, r2]) rfl ?_
        obtain ⟨M4, hx4, hM4, he4, hno⟩ := xgh_many X.out h1'.out hsl hM' (m := w.heap.size) (by omega)
        have hB4 := Box.same hB hk3 (by simp; omega)
        exact ⟨_, _, _, _, _, p2, nx2, kd2, sy2, _, M4, rfl, hK.set3 (.inr (Nat.le_refl _)), ⟨hB4.blk, hno _ (by omega) hB4.out⟩, hM4.kp hk3 (by simpa using hno _ (by omega) hb8.out), he'.trans he4 (Nat.le_refl _), hx4⟩
    | false =>
      by_cases hat : atomI kd2 = true
      · obtain ⟨kk, ps, r', z', rfl, rfl, hav, hT', h6, h7, h8⟩ := chain_more hG.out hat
        have hf' := Hid.mk (fun a r1 (e : z' = .ok (a, r1)) => lv_less h6 e)
        have H6 := Hid.mk h6
        have H8 := Hid.mk h8
        have HT' := Hid.mk hT'
        clear h6 h8 hT' hG
        rw [List.length_map] at hsl
        have hlt0 := hsl.lt
        have HA := Hid.mk (And.intro hsl (And.intro hb8 (And.intro hav (And.intro hM' (And.intro he' hK)))))
        have hlen' : ps.length ≤ 6001 := by rw [List.length_map] at hlen; omega
        clear hsl hb8 hav he' hK
        go_wp2_with (go_at_call 97; refine (risAtom_calls HPB.out).mono ?_; rintro e w' ⟨rfl, rfl⟩)
        refine (hS kk (by omega) g l _ _ M' z' p2 nx2 kd2 sy2 HT'.out hB hM' hl H6.out).mono ?_
        rintro e w3 ⟨o3, s3, A3, n3, c3, p3, nx3, kd3, sy3, bd3, M3, rfl, hk3, hB3, hM3, he3, hG3⟩
        clear hB hM'
        obtain ⟨hsl, hb8, hav, hM', he', hK⟩ := HA.out
        have hsl3 := hsl.kp hk3 (by simp; omega) he3 hsl.lt
        have hb83 := hb8.kp hk3 (by simp; omega) he3 hb8.lt
        have hz3 := hsl3.lt
        have HA := Hid.mk (And.intro hsl3 (And.intro hb83 (And.intro hav (And.intro hM3 (And.intro he' (And.intro he3 (And.intro hK (And.intro hk3 (And.intro hB3 hG3)))))))))
        clear hsl hb8 hav hM' he' hK hsl3 hb83 hM3 he3 hk3 hB3 hG3
        have hbig : (ps.length + 1 ≤ maxLen) ∧ (ps.length + 1) * 48 ≤ 140737488355328 := by unfold maxLen; omega
        have HB := Hid.mk hbig
        clear hbig hlen hpos
        go_wp2_with (at_builtin; go_must (refine wpList_append_lies _ rfl (.tmp 16) (.tmp 19) 23 rfl 0 25 i0 _ 3 48 Try.underlying23 HI.out.1 HI.out.2.1 HI.out.2.2.1 HI.out.2.2.2 rfl (Nat.succ_pos 2) _ ps.length (raw (ps.map rt)) rfl (HA.out.1.alloc _).own ⟨w3.heap.size, 0, none⟩ 1 1 (raw [⟨o3, s3, A3, n3, c3⟩]) rfl rfl (raw_cells (heap_alloc_new _ _)) raw_one Nat.one_pos HB.out.1 HB.out.2 (Nat.zero_le _) (w3.heap.size + 1) (by simp) ?_); intro g1 cap1 w5 hown5 hgr5 hat5 hlt5)
        obtain ⟨hsl, hb8, hav, hM3, he', he3, hK, hk3, hB3, hG3⟩ := HA.out
        have hk5 := Kp.of_grown hgr5
        have hat' : (some g0 : Option Nat) = some g1 ∨ g1 = w3.heap.size + 1 := hat5
        clear hat5
        simp only [Option.some.injEq] at hat'
        have hlt8 := hb8.lt
        go_roundg kk
        case measure => omega
        case rel =>
          refine ⟨ps.map rt ++ [⟨o3, s3, A3, n3, c3⟩], M3, g1, cap1, p3, nx3, kd3, sy3, bd3, by omega, ?_, ⟨?_, ?_⟩, (hb8.alloc _).same hk5 (by simp; omega), (hM3.alloc _).kp hk5 (by simpa using hsl.out), he'.trans (he3.low hK.size) (Nat.le_refl _), Box.same (Box.alloc hB3 _) hk5 (by simp; omega), ?_, by simp, ?_, Hid.mk (lgh_more h7 hf'.out hav he3 hG3 H8.out)⟩
          · simp
          · rw [raw_append, List.length_append, List.length_map]; exact hown5
          · rcases hat' with h | h
            · rw [← h]; exact hsl.out
            · rw [h]; exact hM3.ge (by omega)
          · exact ((hK.trans hk3).alloc _).inner hk5 (by simp; omega)
          · omega
      · replace hat := Bool.eq_false_iff.2 hat
        have X := Hid.mk (chain_over hG.out (.inr hat))
        clear hG
        have HA := Hid.mk (And.intro hsl (And.intro hb8 (And.intro hM' (And.intro he' (And.intro hB hK)))))
        obtain ⟨⟨p0, p1, p2'⟩, f0', f1', f2'⟩ := hb8.three
        by_cases h1 : ts.length = 1
        · obtain ⟨t1, rfl⟩ : ∃ t, ts = [t] := by
            match ts, h1 with
            | [t], _ => exact ⟨t, rfl⟩
          have q0 := hsl.cell (j := 0) (v := .int .i64 t1.o) rfl
          have q1 := hsl.cell (j := 1) (v := .string t1.s) rfl
          have q2 := hsl.cell (j := 2) (v := .slice t1.A t1.n t1.c) rfl
          clear hsl hb8 hM' he' hB hK h1
          go_wp2_with (go_at_call 97; refine (risAtom_calls HPB.out).mono ?_; rintro e w' ⟨rfl, rfl⟩)
          obtain ⟨hsl, hb8, hM', he', hB, hK⟩ := HA.out
          have hk3 := Kp.set3 (b := w.heap.size) (x' := .int .i64 t1.o) (y' := .string t1.s) (z' := .slice t1.A t1.n t1.c) (Kp.refl [w.heap.size] wr) (.inl (by simp))
          obtain ⟨⟨r0, r1, r2⟩, _, _, _⟩ := (hb8.set3 (x' := .int .i64 t1.o) (y' := .string t1.s) (z' := .slice t1.A t1.n t1.c)).three
          refine bodyPost_ret (v := .agg #[.int .i64 t1.o, .string t1.s, .slice t1.A t1.n t1.c]) (by simp [results, Try.results72, go_sem, r0, r1, r2]) rfl ?_
          exact ⟨_, _, _, _, _, p2, nx2, kd2, sy2, _, M', rfl, hK.set3 (.inr (Nat.le_refl _)), Box.same hB hk3 (by simp; omega), hM'.kp hk3 (by simpa using hb8.out), he', xgh_one X.out⟩
        · have h1b : ((ts.length : Int) == 1) = false := by rw [beq_eq_false_iff_ne]; omega
          have h1' := Hid.mk h1
          clear hsl hb8 hM' he' hB hK h1
          go_wp2_with (go_at_call 97; refine (risAtom_calls HPB.out).mono ?_; rintro e w' ⟨rfl, rfl⟩)
          obtain ⟨hsl, hb8, hM', he', hB, hK⟩ := HA.out
          have hk3 := Kp.set3 (b := w.heap.size) (x' := .int .i64 (4)) (y' := .string ⟨#[]⟩) (z' := .slice (some ⟨g0, 0, none⟩) ts.length cap) (Kp.refl [w.heap.size] wr) (.inl (by simp))
          obtain ⟨⟨r0, r1, r2⟩, _, _, _⟩ := (hb8.set3 (x' := .int .i64 (4)) (y' := .string ⟨#[]⟩) (z' := .slice (some ⟨g0, 0, none⟩) ts.length cap)).three
          refine bodyPost_ret (v := .agg #[.int .i64 (4), .string ⟨#[]⟩, .slice (some ⟨g0, 0, none⟩) ts.length cap]) (by simp [results, Try.results72, go_sem, r0, r1, r2]) rfl ?_
          obtain ⟨M4, hx4, hM4, he4, hno⟩ := xgh_many X.out h1'.out hsl hM' (m := w.heap.size) (by omega)
          have hB4 := Box.same hB hk3 (by simp; omega)
          exact ⟨_, _, _, _, _, p2, nx2, kd2, sy2, _, M4, rfl, hK.set3 (.inr (Nat.le_refl _)), ⟨hB4.blk, hno _ (by omega) hB4.out⟩, hM4.kp hk3 (by simpa using hno _ (by omega) hb8.out), he'.trans he4 (Nat.le_refl _), hx4⟩
end Go.Proofs.Ytgdnhlckodhhgaa

/-
  The reference's reader: what holds at the head of a level's loop (no walk).
-/
namespace Go.Proofs.Ytgdnhlckodhhgaa
open Go.RowKit
set_option linter.unusedVariables false
set_option linter.unusedSimpArgs false
theorem sgnJ_eq (n : Nat) : sgnJ n = sgnI n := by
  match n with
  | 0 | 1 | 2 | 3 | 4 | 5 => rfl
  | n + 6 => rfl
theorem sgnJ_bad {n : Nat} (h1 : 1 ≤ n) (h5 : n ≤ 5) : sgnJ n ≠ 4 := by
  match n, h1, h5 with
  | 1, _, _ | 2, _, _ | 3, _, _ | 4, _, _ | 5, _, _ => decide
theorem sgn_len {n : Nat} (h1 : 1 ≤ n) (h5 : n ≤ 5) : (sgn n).length = 1 := by
  match n, h1, h5 with
  | 1, _, _ | 2, _, _ | 3, _, _ | 4, _, _ | 5, _, _ => rfl
theorem takeT_eq {t r u : Bs} (h : tk (sk r) = some u) : takeT t r = if u = t then .ok (true, (sk r).drop t.length) else .ok (false, sk r) := by unfold takeT; rw [h]
theorem takeT_no {t r : Bs} (h : tk (sk r) = none) : takeT t r = .error (sk r) := by unfold takeT; rw [h]
/-- The token at hand is a level's sign. -/
theorem sign_at {l r : Bs} {p nx kd : Int} {sy : ByteArray} {n : Nat} (h1 : 1 ≤ n) (h5 : n ≤ 5) (hT : Tok l r p nx kd sy) (hk : kd = sgnJ n) : tk (sk r) = some (sgn n) := by
  cases ht : tk (sk r) with
  | none => exact absurd (hk.symm.trans (tok_none hT ht)) (sgnJ_bad h1 h5)
  | some u => rw [(sgn_kind ht h1 h5).2 (by rw [← tok_some hT ht, hk])]
theorem all_more {M' : Heap} {l : Bs} {x : Ex (E × Bs)} {k' n : Nat} {ts : List RT} {p nx kd : Int} {sy : ByteArray} (h1 : 1 ≤ n) (h5 : n ≤ 5) (h : LGh M' l x k' (.all n) ts p nx kd sy false) (hk : kd = sgnJ n) :
    ∃ k ps r' z, k' = k + 1 ∧ ts = ps.map rt ∧ AllV M' ps ∧ Tok l r' p nx kd sy ∧ tk (sk r') = some (sgn n) ∧ G k (.lv (n + 1) ((sk r').drop (sgn n).length)) = some z ∧ ps.length + 1 + ((sk r').drop (sgn n).length).length ≤ l.length ∧ Nx z (fun a => G k (.all n (ps.map (·.1) ++ [a.1]) a.2)) x := by
  rcases h with ⟨ps, r', e1, e2, e3, e4, e5, e6⟩ | ⟨q, _, _, h3 | h3, _⟩
  · have ht := sign_at h1 h5 e4 hk
    obtain ⟨k, rfl⟩ : ∃ k, k' = k + 1 := by
      cases k' with
      | zero => simp [G] at e3
      | succ k => exact ⟨k, rfl⟩
    simp only [G] at e3
    rw [takeT_eq ht, if_pos rfl] at e3
    simp only [lf, Bool.true_eq_false, if_false] at e3
    obtain ⟨z, e7, e8⟩ := bx_any e3
    have e9 := (tk_len ht).2.1
    have e10 := sk_len r'
    rw [sgn_len h1 h5] at e9
    exact ⟨k, ps, r', z, rfl, e1, e2, e4, ht, e7, by rw [sgn_len h1 h5, List.length_drop]; omega, e8⟩
  · cases h3
  · exact absurd (hk.symm.trans h3) (sgnJ_bad h1 h5)
theorem all_over {M' : Heap} {l : Bs} {x : Ex (E × Bs)} {k n : Nat} {ts : List RT} {p nx kd : Int} {sy : ByteArray} {bd : Bool} (h1 : 1 ≤ n) (h5 : n ≤ 5) (h : LGh M' l x k (.all n) ts p nx kd sy bd) (hk : bd = true ∨ kd ≠ sgnJ n) :
    XGh M' l x (opn n) ts p nx kd sy bd := by
  rcases h with ⟨ps, r', e1, e2, e3, e4, e5, e6⟩ | ⟨q, e1, e2, e3, _⟩
  · have hk : kd ≠ sgnJ n := hk.elim (fun h => by rw [e5] at h; cases h) id
    cases k with
    | zero => simp [G] at e3
    | succ k =>
      simp only [G] at e3
      cases ht : tk (sk r') with
      | none =>
        rw [takeT_no ht] at e3
        simp only [lf, Option.some.injEq] at e3
        exact .inr ⟨sk r', e3.symm, e4.2.1, .inr (tok_none e4 ht)⟩
      | some t =>
        have hne : t ≠ sgn n := fun e => hk (by rw [tok_some e4 ht, (sgn_kind ht h1 h5).1 e])
        rw [takeT_eq ht, if_neg hne] at e3
        simp only [lf, if_true, Option.some.injEq] at e3
        exact .inl ⟨ps, sk r', e1, e2, e3.symm, tok_sk e4, e5⟩
  · exact .inr ⟨q, e1, e2, e3⟩
def mkL (n : Nat) (acc : List E) (r : Bs) : Task := .left n (acc.headD noneE) r
theorem left_more {M' : Heap} {l : Bs} {x : Ex (E × Bs)} {k' n : Nat} {t : RT} {p nx kd : Int} {sy : ByteArray} (h1 : 1 ≤ n) (h5 : n ≤ 5) (h : LGh M' l x k' (mkL n) [t] p nx kd sy false) (hk : kd = sgnJ n) :
    ∃ k a A c r' z, k' = k + 1 ∧ t = rt (a, A, c) ∧ ExV M' a A c ∧ Tok l r' p nx kd sy ∧ tk (sk r') = some (sgn n) ∧ G k (.lv (n + 1) ((sk r').drop (sgn n).length)) = some z ∧ 2 + ((sk r').drop (sgn n).length).length ≤ l.length ∧ Nx z (fun b => G k (.left n (.mk (opn n) [] [a, b.1]) b.2)) x := by
  rcases h with ⟨ps, r', e1, e2, e3, e4, e5, e6⟩ | ⟨q, _, _, h3 | h3, _⟩
  · match ps, e1 with
    | [(a, A, c)], e1 =>
      simp only [List.map_cons, List.map_nil, List.cons.injEq, and_true] at e1
      have ht := sign_at h1 h5 e4 hk
      obtain ⟨k, rfl⟩ : ∃ k, k' = k + 1 := by
        cases k' with
        | zero => simp [mkL, G] at e3
        | succ k => exact ⟨k, rfl⟩
      simp only [mkL, List.map_cons, List.map_nil, List.headD_cons, G] at e3
      rw [takeT_eq ht, if_pos rfl] at e3
      simp only [lf, Bool.true_eq_false, if_false] at e3
      obtain ⟨z, e7, e8⟩ := bx_any e3
      have e9 := (tk_len ht).2.1
      have e10 := sk_len r'
      rw [sgn_len h1 h5] at e9
      simp only [List.length_cons, List.length_nil] at e6
      exact ⟨k, a, A, c, r', z, rfl, e1, e2 0 (by simp), e4, ht, e7, by rw [sgn_len h1 h5, List.length_drop]; omega, e8⟩
  · cases h3
  · exact absurd (hk.symm.trans h3) (sgnJ_bad h1 h5)
theorem left_over {M' : Heap} {l : Bs} {x : Ex (E × Bs)} {k n : Nat} {t : RT} {p nx kd : Int} {sy : ByteArray} {bd : Bool} (h1 : 1 ≤ n) (h5 : n ≤ 5) (h : LGh M' l x k (mkL n) [t] p nx kd sy bd) (hk : bd = true ∨ kd ≠ sgnJ n) :
    RGh M' l x t.o t.s t.A t.n t.c p nx kd sy bd := by
  refine xgh_one (op := opn n) ?_
  rcases h with ⟨ps, r', e1, e2, e3, e4, e5, e6⟩ | ⟨q, e1, e2, e3, _⟩
  · have hk : kd ≠ sgnJ n := hk.elim (fun h => by rw [e5] at h; cases h) id
    match ps, e1, e3, e2 with
    | [(a, A, c)], e1, e3, e2 =>
      cases k with
      | zero => simp [mkL, G] at e3
      | succ k =>
        simp only [mkL, List.map_cons, List.map_nil, List.headD_cons, G] at e3
        cases ht : tk (sk r') with
        | none =>
          rw [takeT_no ht] at e3
          simp only [lf, Option.some.injEq] at e3
          exact .inr ⟨sk r', e3.symm, e4.2.1, .inr (tok_none e4 ht)⟩
        | some u =>
          have hne : u ≠ sgn n := fun e => hk (by rw [tok_some e4 ht, (sgn_kind ht h1 h5).1 e])
          rw [takeT_eq ht, if_neg hne] at e3
          simp only [lf, if_true, Option.some.injEq] at e3
          exact .inl ⟨[(a, A, c)], sk r', e1, e2, e3.symm, tok_sk e4, e5⟩
  · exact .inr ⟨q, e1, e2, e3⟩
theorem left_next {w : World} {M' : Heap} {l r : Bs} {z x : Ex (E × Bs)} {k n m g1 cap : Nat} {t2 : RT} {a : E} {A : Option Addr} {c : Nat} {p nx kd : Int} {sy : ByteArray} {bd : Bool} (hsl : Sl w M' 25 3 g1 2 cap (raw [rt (a, A, c), t2])) (hM : Mem w M') (hm : m ≤ g1) (hxa : ExV M' a A c)
    (hlen : 1 + r.length ≤ l.length) (hf : ∀ a r1, z = .ok (a, r1) → r1.length < r.length) (h : RGh M' l z t2.o t2.s t2.A t2.n t2.c p nx kd sy bd) (h2 : Nx z (fun b => G k (.left n (.mk (opn n) [] [a, b.1]) b.2)) x) :
    ∃ M4, LGh M4 l x k (mkL n) [⟨opn n, ⟨#[]⟩, some ⟨g1, 0, none⟩, 2, cap⟩] p nx kd sy bd ∧ Mem w M4 ∧ Ext m M' M4 ∧ ∀ b, b ≠ g1 → M' b = none → M4 b = none := by
  cases z with
  | ok p =>
    obtain ⟨b, r1⟩ := p
    obtain ⟨e1, e2, e3, e4, e5, e6⟩ := h
    have et : t2 = rt (b, t2.A, t2.c) := by simp only [rt, ← e1, ← e2, ← e3]
    have hsl' : Sl w M' 25 3 g1 2 cap (flat [(a, A, c), (b, t2.A, t2.c)]) := by
      rw [← raw_flat, List.map_cons, List.map_cons, List.map_nil, ← et]
      exact hsl
    obtain ⟨M4, hx, hM4, he4, hno⟩ := hsl'.node rfl hM (AllV.snoc (AllV.one hxa) (p := (b, t2.A, t2.c)) e4) (opn n) [] m hm
    refine ⟨M4, .inl ⟨[(.mk (opn n) [] [a, b], some ⟨g1, 0, none⟩, cap)], r1, rfl, AllV.one hx, h2, e5, e6, ?_⟩, hM4, he4, hno⟩
    have := hf b r1 rfl; simp; omega
  | error q =>
    obtain ⟨e1, e2⟩ := h
    exact ⟨M', .inr ⟨q, h2, e1, e2, by simp⟩, hM, Ext.refl _ _, fun _ _ h => h⟩
end Go.Proofs.Ytgdnhlckodhhgaa

/-
  Whether two expressions are one, by the reference.
-/
namespace Go.Proofs.Ytgdnhlckodhhgaa
open Go.RowKit
set_option linter.unusedVariables false
set_option linter.unusedSimpArgs false
set_option maxRecDepth 100000 in
set_option maxHeartbeats 2000000 in
theorem rSame_calls (n : Nat) : ∀ (a b : E) (A B : Option Addr) (c d : Nat) (w : World) (M : Heap), ExV M a A c → ExV M b B d → Mem w M → a.size ≤ n → n ≤ 1099511627776 →
    Calls Try.prog 10 #[.agg #[.int .i64 a.op, .string (bs a.s), .slice A a.l.length c], .agg #[.int .i64 b.op, .string (bs b.s), .slice B b.l.length d]] w fun en w' => en = .returned (.bool (same a b)) ∧ Kp [] w w' := by
  induction n with
  | zero => intro a b A B c d w M ha hb hM hn; have := size_pos a; omega
  | succ n ih =>
    intro a b A B c d w M ha hb hM hn hbig
    have hn1 : sizes a.l ≤ n := by rw [E.size_eq] at hn; omega
    have hll := length_sizes a.l
    have hta := bs_toList a.s
    have htb := bs_toList b.s
    clear hn
    by_cases h1 : a.op = b.op
    · by_cases h2 : a.s = b.s
      · by_cases h3 : a.l.length = b.l.length
        · have H1 := Hid.mk h1
          have H2 := Hid.mk h2
          by_cases hl : a.l.length = 0
          · have HS := Hid.mk (same_step h1 h2 h3 (fun j h => by omega))
            rw [← h1, ← h2, ← h3, hl]
            clear h1 h2 h3 hl hll htb
            go_enter Try.func10, Try.ntmps10
            go_wp2_with fail
            refine wp_loop_rounds 1 ?_
            rw [rounds_succ]
            go_wp2_with fail
            go_ret
            exact ⟨ret_bool HS.out.symm, ((Kp.refl _ _).alloc _).alloc _⟩
          · obtain ⟨ba, oa, rfl⟩ := ha.place (by omega)
            obtain ⟨bb, ob, rfl⟩ := hb.place (by omega)
            have HA := Hid.mk ha
            have HB := Hid.mk hb
            have H3 := Hid.mk h3
            obtain ⟨hx, hy⟩ := two_boxes hM #[.int .i64 a.op, .string (bs a.s), .slice (some ⟨ba, oa, none⟩) a.l.length c] #[.int .i64 b.op, .string (bs b.s), .slice (some ⟨bb, ob, none⟩) b.l.length d] 25 25
            rw [← h1, ← h2, ← h3] at hx hy
            rw [← h1, ← h2, ← h3]
            clear ha hb h1 h2 h3
            go_enter Try.func10, Try.ntmps10
            go_wp2_with fail
            go_loopg [5] a.l.length (fun k v wr => ∃ j : Nat, j ≤ a.l.length ∧ k = a.l.length - j ∧ v = .int .i64 (j : Nat) ∧ (∀ i (h : i < a.l.length) (h' : i < b.l.length), i < j → a.l[i] = b.l[i]) ∧ Mem wr M ∧ Kp [] w wr ∧ Box wr M w.heap.size #[.int .i64 a.op, .string (bs a.s), .slice (some ⟨ba, oa, none⟩) a.l.length c] 25 ∧ Box wr M (w.heap.size + 1) #[.int .i64 a.op, .string (bs a.s), .slice (some ⟨bb, ob, none⟩) a.l.length d] 25)
            case atStart => exact ⟨0, Nat.zero_le _, by simp, rfl, fun i _ _ h => by omega, (hM.alloc _).alloc _, ((Kp.refl _ _).alloc _).alloc _, hx, hy⟩
            case round =>
              obtain ⟨j, hj, hk, rfl, hsame, hM', hK, hx', hy'⟩ := hrel
              have HSM := Hid.mk hsame
              obtain ⟨⟨a0, a1, a2⟩, _, _, _⟩ := hx'.three
              obtain ⟨⟨b0, b1', b2'⟩, _, _, _⟩ := hy'.three
              have hzx := hx'.lt
              have hzy := hy'.lt
              clear hsame
              by_cases hlt : j < a.l.length
              · have hlt2 : j < b.l.length := by have := H3.out; omega
                obtain ⟨A', c', h0, h1, h2, hxa⟩ := HA.out.at_ j hlt
                obtain ⟨B', d', k0, k1, k2, hxb⟩ := HB.out.at_ j hlt2
                have q0 := hM'.cell h0
                have q1 := hM'.cell h1
                have q2 := hM'.cell h2
                have r0 := hM'.cell k0
                have r1 := hM'.cell k1
                have r2 := hM'.cell k2
                have hjs := size_mem (List.getElem_mem hlt)
                have HXA := Hid.mk hxa
                have HXB := Hid.mk hxb
                have HH := Hid.mk (And.intro hM' (And.intro hK (And.intro hx' (And.intro hy' (And.intro h0 (And.intro h1 (And.intro h2 (And.intro k0 (And.intro k1 k2)))))))))
                clear h0 h1 h2 k0 k1 k2 hxa hxb hM' hK hx' hy' hx hy hM
                cases hs : same a.l[j] b.l[j] with
                | true =>
                  have HJ := Hid.mk (same_iff.1 hs)
                  go_upto_region 6 with fail
                  go_region_held3 (fun w' => w'.cell? ⟨w.heap.size, 2, none⟩ = some (.slice (some ⟨ba, oa, none⟩) a.l.length c) ∧ w'.cell? ⟨w.heap.size + 1, 2, none⟩ = some (.slice (some ⟨bb, ob, none⟩) a.l.length d) ∧ w'.cell? ⟨ba, oa + j * 3, none⟩ = some (.int .i64 a.l[j].op) ∧ w'.cell? ⟨ba, oa + j * 3 + 1, none⟩ = some (.string (bs a.l[j].s)) ∧ w'.cell? ⟨ba, oa + j * 3 + 2, none⟩ = some (.slice A' a.l[j].l.length c') ∧ w'.cell? ⟨bb, ob + j * 3, none⟩ = some (.int .i64 b.l[j].op) ∧ w'.cell? ⟨bb, ob + j * 3 + 1, none⟩ = some (.string (bs b.l[j].s)) ∧ w'.cell? ⟨bb, ob + j * 3 + 2, none⟩ = some (.slice B' b.l[j].l.length d')) (go_keep) (first | (go_at_call 10; refine (ih a.l[j] b.l[j] A' B' c' d' _ M HXA.out HXB.out HH.out.1.drew (by omega) (by omega)).mono ?_; rintro e w2 ⟨rfl, hk2⟩; have HZ := Hid.mk (And.intro (HH.out.1.drew.kp hk2 (by simp)) (And.intro (HH.out.2.1.drew.trans hk2) (And.intro ((Box.drew HH.out.2.2.1).same hk2 (by simp)) ((Box.drew HH.out.2.2.2.1).same hk2 (by simp))))); have z0 := HZ.out.2.2.1.three.1.2.2; have z1 := HZ.out.2.2.2.three.1.2.2; have z2 := HZ.out.1.cell HH.out.2.2.2.2.1; have z3 := HZ.out.1.cell HH.out.2.2.2.2.2.1; have z4 := HZ.out.1.cell HH.out.2.2.2.2.2.2.1; have z5 := HZ.out.1.cell HH.out.2.2.2.2.2.2.2.1; have z6 := HZ.out.1.cell HH.out.2.2.2.2.2.2.2.2.1; have z7 := HZ.out.1.cell HH.out.2.2.2.2.2.2.2.2.2; clear hk2))
                  go_wp2_with fail
                  go_roundg (a.l.length - (j + 1))
                  case measure => omega
                  case rel =>
                    refine ⟨j + 1, by omega, rfl, by go_num, fun i h h' hij => ?_, HZ.out.1, HZ.out.2.1, HZ.out.2.2.1, HZ.out.2.2.2⟩
                    rcases Nat.lt_or_ge i j with h4 | h4
                    · exact HSM.out i h h' h4
                    · obtain rfl : i = j := by omega
                      exact HJ.out
                | false =>
                  have HX := Hid.mk (same_at hlt hlt2 hs)
                  go_upto_region 6 with fail
                  go_region_held3 (fun w' => w'.cell? ⟨w.heap.size, 2, none⟩ = some (.slice (some ⟨ba, oa, none⟩) a.l.length c) ∧ w'.cell? ⟨w.heap.size + 1, 2, none⟩ = some (.slice (some ⟨bb, ob, none⟩) a.l.length d) ∧ w'.cell? ⟨ba, oa + j * 3, none⟩ = some (.int .i64 a.l[j].op) ∧ w'.cell? ⟨ba, oa + j * 3 + 1, none⟩ = some (.string (bs a.l[j].s)) ∧ w'.cell? ⟨ba, oa + j * 3 + 2, none⟩ = some (.slice A' a.l[j].l.length c') ∧ w'.cell? ⟨bb, ob + j * 3, none⟩ = some (.int .i64 b.l[j].op) ∧ w'.cell? ⟨bb, ob + j * 3 + 1, none⟩ = some (.string (bs b.l[j].s)) ∧ w'.cell? ⟨bb, ob + j * 3 + 2, none⟩ = some (.slice B' b.l[j].l.length d')) (go_keep) (first | (go_at_call 10; refine (ih a.l[j] b.l[j] A' B' c' d' _ M HXA.out HXB.out HH.out.1.drew (by omega) (by omega)).mono ?_; rintro e w2 ⟨rfl, hk2⟩; have HZ := Hid.mk (And.intro (HH.out.1.drew.kp hk2 (by simp)) (And.intro (HH.out.2.1.drew.trans hk2) (And.intro ((Box.drew HH.out.2.2.1).same hk2 (by simp)) ((Box.drew HH.out.2.2.2.1).same hk2 (by simp))))); have z0 := HZ.out.2.2.1.three.1.2.2; have z1 := HZ.out.2.2.2.three.1.2.2; have z2 := HZ.out.1.cell HH.out.2.2.2.2.1; have z3 := HZ.out.1.cell HH.out.2.2.2.2.2.1; have z4 := HZ.out.1.cell HH.out.2.2.2.2.2.2.1; have z5 := HZ.out.1.cell HH.out.2.2.2.2.2.2.2.1; have z6 := HZ.out.1.cell HH.out.2.2.2.2.2.2.2.2.1; have z7 := HZ.out.1.cell HH.out.2.2.2.2.2.2.2.2.2; clear hk2))
                  go_wp2_with fail
                  go_ret
                  exact ⟨ret_bool HX.out.symm, HZ.out.2.1⟩
              · obtain rfl : j = a.l.length := by omega
                have hlt' : ¬ ((a.l.length : Int) < (a.l.length : Int)) := by omega
                have HX := Hid.mk (same_step H1.out H2.out H3.out (fun i h h' => HSM.out i h h' h))
                go_wp2_with fail
                go_ret
                exact ⟨ret_bool HX.out.symm, hK⟩
        · have b3 : ((a.l.length : Int) != (b.l.length : Int)) = true := by simp; omega
          have HS := Hid.mk (same_no (a := a) (b := b) (fun e => h3 (by rw [e])))
          rw [← h1, ← h2]
          clear h1 h2 h3 htb
          go_enter Try.func10, Try.ntmps10
          go_wp2_with fail
          go_ret
          exact ⟨ret_bool HS.out.symm, ((Kp.refl _ _).alloc _).alloc _⟩
      · have b2 : (a.s == b.s) = false := by simpa using h2
        have HS := Hid.mk (same_no (a := a) (b := b) (fun e => h2 (by rw [e])))
        rw [← h1]
        clear h1 h2
        go_enter Try.func10, Try.ntmps10
        go_wp2_with fail
        go_ret
        exact ⟨ret_bool HS.out.symm, ((Kp.refl _ _).alloc _).alloc _⟩
    · have b1 : (a.op != b.op) = true := by simpa using h1
      have HS := Hid.mk (same_no (a := a) (b := b) (fun e => h1 (by rw [e])))
      clear h1
      go_enter Try.func10, Try.ntmps10
      go_wp2_with fail
      go_ret
      exact ⟨ret_bool HS.out.symm, ((Kp.refl _ _).alloc _).alloc _⟩
end Go.Proofs.Ytgdnhlckodhhgaa
