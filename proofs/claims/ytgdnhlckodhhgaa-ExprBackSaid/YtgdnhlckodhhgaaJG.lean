/-
  The reference's reader: its state between tokens; on to the next token; how each of its functions ends.
-/
import Derived.Test.YtgdnhlckodhhgaaJD3
import Derived.Test.YtgdnhlckodhhgaaJQ
import Derived.Test.YtgdnhlckodhhgaaJA6
import Derived.Test.YtgdnhlckodhhgaaJC
namespace Go.Proofs.Ytgdnhlckodhhgaa
open Go.RowKit
set_option linter.unusedVariables false
theorem two_boxes {w : World} {M : Heap} (hM : Mem w M) (c d : Array Value) (t u : TypeId) : Box ((w.alloc (.cells c t)).alloc (.cells d u)) M w.heap.size c t ∧ Box ((w.alloc (.cells c t)).alloc (.cells d u)) M (w.heap.size + 1) d u := by
  refine ⟨(Box.new hM c t).alloc _, ?_⟩
  have h := Box.new (hM.alloc (.cells c t)) d u
  have e : (w.alloc (.cells c t)).heap.size = w.heap.size + 1 := by simp
  rwa [e] at h
/-- The token at hand begins at sk r. -/
def Tok (l r : Bs) (p nx kd : Int) (sy : ByteArray) : Prop :=
  r <:+ l ∧ p = (at_ l (sk r) : Nat) ∧ kd = rkind (tk (sk r)) ∧ ∀ u, tk (sk r) = some u → nx = (at_ l ((sk r).drop u.length) : Nat) ∧ (rkind (some u) = 1 → sy = bs (symOf u))
theorem at_drop {l q : Bs} {n : Nat} (h : q <:+ l) (hn : n ≤ q.length) : at_ l (q.drop n) = at_ l q + n := by
  have := h.length_le
  simp [at_]; omega
theorem adv_tok {w w' : World} {M : Heap} {g : Nat} {l r : Bs} {bd : Bool} (hr : r <:+ l) (h : AdvEnd w w' M g l (sk r) bd) : ∃ p nx kd sy, Kp [g] w w' ∧ PB w' M g l p nx kd sy bd ∧ Tok l r p nx kd sy := by
  obtain ⟨hk, nx, sy, hb, hu⟩ := h
  refine ⟨_, nx, _, sy, hk, hb, hr, rfl, rfl, fun u h => ?_⟩
  obtain ⟨h1, h2⟩ := hu u h
  refine ⟨?_, ?_⟩
  · rw [h1, at_drop ((sk_suffix r).trans hr) (tk_len h).2.1]
  · rw [h] at h2; exact h2
theorem sk_idem {r : Bs} : sk (sk r) = sk r := sk_sk r
theorem adv_calls {g : Nat} {l r u : Bs} {w : World} {M : Heap} {p nx kd : Int} {sy : ByteArray} {bd : Bool} (hl : l.length ≤ 6000) (hT : Tok l r p nx kd sy) (hu : tk (sk r) = some u) (h : PB w M g l p nx kd sy bd) :
    Calls Try.prog 22 #[.pointer (some ⟨g, 0, none⟩)] w fun e w' => ∃ p' nx' kd' sy', e = .returned (.tuple #[]) ∧ Kp [g] w w' ∧ PB w' M g l p' nx' kd' sy' bd ∧ Tok l ((sk r).drop u.length) p' nx' kd' sy' := by
  obtain ⟨h1, h2, h3, h4⟩ := hT
  obtain ⟨h5, _⟩ := h4 u hu
  have hs : (sk r).drop u.length <:+ l := ((List.drop_suffix _ _).trans (sk_suffix r)).trans h1
  rw [h5] at h
  refine (advance_calls hs hl h).mono fun e w' ⟨e1, e2⟩ => ?_
  obtain ⟨p', nx', kd', sy', hk, hb, ht⟩ := adv_tok hs e2
  exact ⟨p', nx', kd', sy', e1, hk, hb, ht⟩
theorem tok_sk {l r : Bs} {p nx kd : Int} {sy : ByteArray} (h : Tok l r p nx kd sy) : Tok l (sk r) p nx kd sy := by
  obtain ⟨h1, h2, h3, h4⟩ := h
  refine ⟨(sk_suffix r).trans h1, ?_, ?_, ?_⟩ <;> rw [sk_sk] <;> assumption
theorem tok_some {l r u : Bs} {p nx kd : Int} {sy : ByteArray} (h : Tok l r p nx kd sy) (hu : tk (sk r) = some u) : kd = rkind (some u) := hu ▸ h.2.2.1
theorem tok_none {l r : Bs} {p nx kd : Int} {sy : ByteArray} (h : Tok l r p nx kd sy) (hu : tk (sk r) = none) : kd = 4 := by have := h.2.2.1; rw [hu] at this; exact this
/-- What holds behind a function of the reader that has answered x. -/
def RGh (M' : Heap) (l : Bs) (x : Ex (E × Bs)) (o : Int) (sb : ByteArray) (A : Option Addr) (n c : Nat) (p nx kd : Int) (sy : ByteArray) (bd : Bool) : Prop := match x with
  | .ok (a, r') => o = a.op ∧ sb = bs a.s ∧ n = a.l.length ∧ ExV M' a A c ∧ Tok l r' p nx kd sy ∧ bd = false
  | .error q => p = (at_ l q : Nat) ∧ (bd = true ∨ kd = 4)
/-- How a function of the reader ends: with a node (any one, where the text is wrong), the reader's state known. -/
def REnd (w : World) (M : Heap) (g : Nat) (l : Bs) (x : Ex (E × Bs)) (e : Ending) (w' : World) : Prop :=
  ∃ o sb A n c p nx kd sy bd M', e = .returned (.agg #[.int .i64 o, .string sb, .slice A n c]) ∧ Kp [g] w w' ∧ PB w' M' g l p nx kd sy bd ∧ Mem w' M' ∧ Ext w.heap.size M M' ∧ RGh M' l x o sb A n c p nx kd sy bd
/-- A function of the reader does what G says, with k rounds. -/
def RSpec (f : FuncId) (xs : List Value) (n k : Nat) : Prop := ∀ (g : Nat) (l r : Bs) (w : World) (M : Heap) (x : Ex (E × Bs)) (p nx kd : Int) (sy : ByteArray), Tok l r p nx kd sy → PB w M g l p nx kd sy false → Mem w M → l.length ≤ 6000 → G k (.lv n r) = some x →
  Calls Try.prog f (.pointer (some ⟨g, 0, none⟩) :: xs).toArray w (REnd w M g l x)
/-- The cells of a node, whatever it is. -/
structure RT where
  o : Int
  s : ByteArray
  A : Option Addr
  n : Nat
  c : Nat
def RT.v (t : RT) : Value := .agg #[.int .i64 t.o, .string t.s, .slice t.A t.n t.c]
def raw (ts : List RT) : List Value := ts.flatMap fun t => [.int .i64 t.o, .string t.s, .slice t.A t.n t.c]
def rt (p : E × Option Addr × Nat) : RT := ⟨p.1.op, bs p.1.s, p.2.1, p.1.l.length, p.2.2⟩
theorem raw_flat (ps : List (E × Option Addr × Nat)) : raw (ps.map rt) = flat ps := by simp [raw, flat, rt, List.flatMap_map]
theorem raw_append (ts us : List RT) : raw (ts ++ us) = raw ts ++ raw us := by simp [raw]
theorem raw_length (ts : List RT) : (raw ts).length = ts.length * 3 := by
  induction ts with
  | nil => rfl
  | cons p ps ih => simp only [raw, List.flatMap_cons, List.length_append, List.length_cons, List.length_nil] at *; omega
theorem raw_cells {w : World} {b : Nat} {u : RT} {t : TypeId} (h : w.heap[b]? = some (.cells #[.int .i64 u.o, .string u.s, .slice u.A u.n u.c] t (0, 0))) :
    ∀ j v, (raw [u])[j]? = some v → w.cell? ((⟨b, 0, none⟩ : Addr).add j) = some v := by
  intro j v hv
  have e : (⟨b, 0, none⟩ : Addr).add j = ⟨b, j, none⟩ := by unfold Addr.add; split <;> simp_all
  rw [e]
  simp only [World.cell?, h, Option.isSome_none, Bool.false_eq_true, if_false]
  match j, hv with
  | 0, hv => exact hv
  | 1, hv => exact hv
  | 2, hv => exact hv
  | j + 3, hv => simp [raw] at hv
theorem raw_one {u : RT} : ∀ v ∈ raw [u], v.oneCell' = true := by
  intro v hv
  simp [raw] at hv
  rcases hv with rfl | rfl | rfl <;> rfl
/-- What holds behind the last round of a list's loop. -/
def XGh (M' : Heap) (l : Bs) (x : Ex (E × Bs)) (op : Int) (ts : List RT) (p nx kd : Int) (sy : ByteArray) (bd : Bool) : Prop :=
  (∃ ps r', ts = ps.map rt ∧ AllV M' ps ∧ x = .ok (one op (ps.map (·.1)), r') ∧ Tok l r' p nx kd sy ∧ bd = false) ∨ ∃ q, x = .error q ∧ p = (at_ l q : Nat) ∧ (bd = true ∨ kd = 4)
theorem xgh_one {M' : Heap} {l : Bs} {x : Ex (E × Bs)} {op : Int} {t : RT} {p nx kd : Int} {sy : ByteArray} {bd : Bool} (h : XGh M' l x op [t] p nx kd sy bd) : RGh M' l x t.o t.s t.A t.n t.c p nx kd sy bd := by
  rcases h with ⟨ps, r', h1, h2, rfl, h3, h4⟩ | ⟨q, rfl, h3, h4⟩
  · match ps, h1 with
    | [(a, A, c)], h1 =>
      simp only [List.map_cons, List.map_nil, List.cons.injEq, and_true] at h1
      subst h1
      exact ⟨rfl, rfl, rfl, h2 0 (by simp), h3, h4⟩
  · exact ⟨h3, h4⟩
theorem xgh_many {w : World} {M' : Heap} {l : Bs} {x : Ex (E × Bs)} {op : Int} {ts : List RT} {p nx kd : Int} {sy : ByteArray} {bd : Bool} {g0 cap m : Nat} (h : XGh M' l x op ts p nx kd sy bd) (hn : ts.length ≠ 1) (hsl : Sl w M' 25 3 g0 ts.length cap (raw ts)) (hM : Mem w M') (hm : m ≤ g0) :
    ∃ M4, RGh M4 l x op ⟨#[]⟩ (some ⟨g0, 0, none⟩) ts.length cap p nx kd sy bd ∧ Mem w M4 ∧ Ext m M' M4 ∧ ∀ b, b ≠ g0 → M' b = none → M4 b = none := by
  rcases h with ⟨ps, r', rfl, h2, rfl, h3, h4⟩ | ⟨q, rfl, h3, h4⟩
  · rw [raw_flat] at hsl
    simp only [List.length_map] at hsl hn ⊢
    obtain ⟨M4, hx, hM4, he4, hno⟩ := hsl.node rfl hM h2 op [] m hm
    refine ⟨M4, ?_, hM4, he4, hno⟩
    have e : one op (ps.map (·.1)) = .mk op [] (ps.map (·.1)) := one_ne _ (by simpa using hn)
    rw [e]
    exact ⟨rfl, rfl, by simp [E.l], hx, h3, h4⟩
  · exact ⟨M', ⟨h3, h4⟩, hM, Ext.refl _ _, fun _ _ h => h⟩
end Go.Proofs.Ytgdnhlckodhhgaa

/-
  Whether two expressions are one, by the reference.
-/
namespace Go.Proofs.Ytgdnhlckodhhgaa
open Go.RowKit
set_option linter.unusedVariables false
set_option linter.unusedSimpArgs false
set_option maxRecDepth 100000 in
set_option maxHeartbeats 2000000 in
theorem rSame_calls (n : Nat) : ∀ (a b : E) (A B : Option Addr) (c d : Nat) (w : World) (M : Heap), ExV M a A c → ExV M b B d → Mem w M → a.size ≤ n → n ≤ 1099511627776 →
    Calls Try.prog 10 #[.agg #[.int .i64 a.op, .string (bs a.s), .slice A a.l.length c], .agg #[.int .i64 b.op, .string (bs b.s), .slice B b.l.length d]] w fun en w' => en = .returned (.bool (same a b)) ∧ Kp [] w w' := by
  induction n with
  | zero => intro a b A B c d w M ha hb hM hn; have := size_pos a; omega
  | succ n ih =>
    intro a b A B c d w M ha hb hM hn hbig
    have hn1 : sizes a.l ≤ n := by rw [E.size_eq] at hn; omega
    have hll := length_sizes a.l
    have hta := bs_toList a.s
    have htb := bs_toList b.s
    clear hn
    by_cases h1 : a.op = b.op
    · by_cases h2 : a.s = b.s
      · by_cases h3 : a.l.length = b.l.length
        · have H1 := Hid.mk h1
          have H2 := Hid.mk h2
          by_cases hl : a.l.length = 0
          · have HS := Hid.mk (same_step h1 h2 h3 (fun j h => by omega))
            rw [← h1, ← h2, ← h3, hl]
            clear h1 h2 h3 hl hll htb
            go_enter Try.func10, Try.ntmps10
            go_wp2_with fail
            refine wp_loop_rounds 1 ?_
            rw [rounds_succ]
            go_wp2_with fail
            go_ret
            exact ⟨ret_bool HS.out.symm, ((Kp.refl _ _).alloc _).alloc _⟩
          · obtain ⟨ba, oa, rfl⟩ := ha.place (by omega)
            obtain ⟨bb, ob, rfl⟩ := hb.place (by omega)
            have HA := Hid.mk ha
            have HB := Hid.mk hb
            have H3 := Hid.mk h3
            obtain ⟨hx, hy⟩ := two_boxes hM #[.int .i64 a.op, .string (bs a.s), .slice (some ⟨ba, oa, none⟩) a.l.length c] #[.int .i64 b.op, .string (bs b.s), .slice (some ⟨bb, ob, none⟩) b.l.length d] 25 25
            rw [← h1, ← h2, ← h3] at hx hy
            rw [← h1, ← h2, ← h3]
            clear ha hb h1 h2 h3
            go_enter Try.func10, Try.ntmps10
            go_wp2_with fail
            go_loopg [5] a.l.length (fun k v wr => ∃ j : Nat, j ≤ a.l.length ∧ k = a.l.length - j ∧ v = .int .i64 (j : Nat) ∧ (∀ i (h : i < a.l.length) (h' : i < b.l.length), i < j → a.l[i] = b.l[i]) ∧ Mem wr M ∧ Kp [] w wr ∧ Box wr M w.heap.size #[.int .i64 a.op, .string (bs a.s), .slice (some ⟨ba, oa, none⟩) a.l.length c] 25 ∧ Box wr M (w.heap.size + 1) #[.int .i64 a.op, .string (bs a.s), .slice (some ⟨bb, ob, none⟩) a.l.length d] 25)
            case atStart => exact ⟨0, Nat.zero_le _, by simp, rfl, fun i _ _ h => by omega, (hM.alloc _).alloc _, ((Kp.refl _ _).alloc _).alloc _, hx, hy⟩
            case round =>
              obtain ⟨j, hj, hk, rfl, hsame, hM', hK, hx', hy'⟩ := hrel
              have HSM := Hid.mk hsame
              obtain ⟨⟨a0, a1, a2⟩, _, _, _⟩ := hx'.three
              obtain ⟨⟨b0, b1', b2'⟩, _, _, _⟩ := hy'.three
              have hzx := hx'.lt
              have hzy := hy'.lt
              clear hsame
              by_cases hlt : j < a.l.length
              · have hlt2 : j < b.l.length := by have := H3.out; omega
                obtain ⟨A', c', h0, h1, h2, hxa⟩ := HA.out.at_ j hlt
                obtain ⟨B', d', k0, k1, k2, hxb⟩ := HB.out.at_ j hlt2
                have q0 := hM'.cell h0
                have q1 := hM'.cell h1
                have q2 := hM'.cell h2
                have r0 := hM'.cell k0
                have r1 := hM'.cell k1
                have r2 := hM'.cell k2
                have hjs := size_mem (List.getElem_mem hlt)
                have HXA := Hid.mk hxa
                have HXB := Hid.mk hxb
                have HH := Hid.mk (And.intro hM' (And.intro hK (And.intro hx' (And.intro hy' (And.intro h0 (And.intro h1 (And.intro h2 (And.intro k0 (And.intro k1 k2)))))))))
                clear h0 h1 h2 k0 k1 k2 hxa hxb hM' hK hx' hy' hx hy hM
                cases hs : same a.l[j] b.l[j] with
                | true =>
                  have HJ := Hid.mk (same_iff.1 hs)
                  go_upto_region 6 with fail
                  go_region_held3 (fun w' => w'.cell? ⟨w.heap.size, 2, none⟩ = some (.slice (some ⟨ba, oa, none⟩) a.l.length c) ∧ w'.cell? ⟨w.heap.size + 1, 2, none⟩ = some (.slice (some ⟨bb, ob, none⟩) a.l.length d) ∧ w'.cell? ⟨ba, oa + j * 3, none⟩ = some (.int .i64 a.l[j].op) ∧ w'.cell? ⟨ba, oa + j * 3 + 1, none⟩ = some (.string (bs a.l[j].s)) ∧ w'.cell? ⟨ba, oa + j * 3 + 2, none⟩ = some (.slice A' a.l[j].l.length c') ∧ w'.cell? ⟨bb, ob + j * 3, none⟩ = some (.int .i64 b.l[j].op) ∧ w'.cell? ⟨bb, ob + j * 3 + 1, none⟩ = some (.string (bs b.l[j].s)) ∧ w'.cell? ⟨bb, ob + j * 3 + 2, none⟩ = some (.slice B' b.l[j].l.length d')) (go_keep) (first | (go_at_call 10; refine (ih a.l[j] b.l[j] A' B' c' d' _ M HXA.out HXB.out HH.out.1.drew (by omega) (by omega)).mono ?_; rintro e w2 ⟨rfl, hk2⟩; have HZ := Hid.mk (And.intro (HH.out.1.drew.kp hk2 (by simp)) (And.intro (HH.out.2.1.drew.trans hk2) (And.intro ((Box.drew HH.out.2.2.1).same hk2 (by simp)) ((Box.drew HH.out.2.2.2.1).same hk2 (by simp))))); have z0 := HZ.out.2.2.1.three.1.2.2; have z1 := HZ.out.2.2.2.three.1.2.2; have z2 := HZ.out.1.cell HH.out.2.2.2.2.1; have z3 := HZ.out.1.cell HH.out.2.2.2.2.2.1; have z4 := HZ.out.1.cell HH.out.2.2.2.2.2.2.1; have z5 := HZ.out.1.cell HH.out.2.2.2.2.2.2.2.1; have z6 := HZ.out.1.cell HH.out.2.2.2.2.2.2.2.2.1; have z7 := HZ.out.1.cell HH.out.2.2.2.2.2.2.2.2.2; clear hk2))
                  go_wp2_with fail
                  go_roundg (a.l.length - (j + 1))
                  case measure => omega
                  case rel =>
                    refine ⟨j + 1, by omega, rfl, by go_num, fun i h h' hij => ?_, HZ.out.1, HZ.out.2.1, HZ.out.2.2.1, HZ.out.2.2.2⟩
                    rcases Nat.lt_or_ge i j with h4 | h4
                    · exact HSM.out i h h' h4
                    · obtain rfl : i = j := by omega
                      exact HJ.out
                | false =>
                  have HX := Hid.mk (same_at hlt hlt2 hs)
                  go_upto_region 6 with fail
                  go_region_held3 (fun w' => w'.cell? ⟨w.heap.size, 2, none⟩ = some (.slice (some ⟨ba, oa, none⟩) a.l.length c) ∧ w'.cell? ⟨w.heap.size + 1, 2, none⟩ = some (.slice (some ⟨bb, ob, none⟩) a.l.length d) ∧ w'.cell? ⟨ba, oa + j * 3, none⟩ = some (.int .i64 a.l[j].op) ∧ w'.cell? ⟨ba, oa + j * 3 + 1, none⟩ = some (.string (bs a.l[j].s)) ∧ w'.cell? ⟨ba, oa + j * 3 + 2, none⟩ = some (.slice A' a.l[j].l.length c') ∧ w'.cell? ⟨bb, ob + j * 3, none⟩ = some (.int .i64 b.l[j].op) ∧ w'.cell? ⟨bb, ob + j * 3 + 1, none⟩ = some (.string (bs b.l[j].s)) ∧ w'.cell? ⟨bb, ob + j * 3 + 2, none⟩ = some (.slice B' b.l[j].l.length d')) (go_keep) (first | (go_at_call 10; refine (ih a.l[j] b.l[j] A' B' c' d' _ M HXA.out HXB.out HH.out.1.drew (by omega) (by omega)).mono ?_; rintro e w2 ⟨rfl, hk2⟩; have HZ := Hid.mk (And.intro (HH.out.1.drew.kp hk2 (by simp)) (And.intro (HH.out.2.1.drew.trans hk2) (And.intro ((Box.drew HH.out.2.2.1).same hk2 (by simp)) ((Box.drew HH.out.2.2.2.1).same hk2 (by simp))))); have z0 := HZ.out.2.2.1.three.1.2.2; have z1 := HZ.out.2.2.2.three.1.2.2; have z2 := HZ.out.1.cell HH.out.2.2.2.2.1; have z3 := HZ.out.1.cell HH.out.2.2.2.2.2.1; have z4 := HZ.out.1.cell HH.out.2.2.2.2.2.2.1; have z5 := HZ.out.1.cell HH.out.2.2.2.2.2.2.2.1; have z6 := HZ.out.1.cell HH.out.2.2.2.2.2.2.2.2.1; have z7 := HZ.out.1.cell HH.out.2.2.2.2.2.2.2.2.2; clear hk2))
                  go_wp2_with fail
                  go_ret
                  exact ⟨ret_bool HX.out.symm, HZ.out.2.1⟩
              · obtain rfl : j = a.l.length := by omega
                have hlt' : ¬ ((a.l.length : Int) < (a.l.length : Int)) := by omega
                have HX := Hid.mk (same_step H1.out H2.out H3.out (fun i h h' => HSM.out i h h' h))
                go_wp2_with fail
                go_ret
                exact ⟨ret_bool HX.out.symm, hK⟩
        · have b3 : ((a.l.length : Int) != (b.l.length : Int)) = true := by simp; omega
          have HS := Hid.mk (same_no (a := a) (b := b) (fun e => h3 (by rw [e])))
          rw [← h1, ← h2]
          clear h1 h2 h3 htb
          go_enter Try.func10, Try.ntmps10
          go_wp2_with fail
          go_ret
          exact ⟨ret_bool HS.out.symm, ((Kp.refl _ _).alloc _).alloc _⟩
      · have b2 : (a.s == b.s) = false := by simpa using h2
        have HS := Hid.mk (same_no (a := a) (b := b) (fun e => h2 (by rw [e])))
        rw [← h1]
        clear h1 h2
        go_enter Try.func10, Try.ntmps10
        go_wp2_with fail
        go_ret
        exact ⟨ret_bool HS.out.symm, ((Kp.refl _ _).alloc _).alloc _⟩
    · have b1 : (a.op != b.op) = true := by simpa using h1
      have HS := Hid.mk (same_no (a := a) (b := b) (fun e => h1 (by rw [e])))
      clear h1
      go_enter Try.func10, Try.ntmps10
      go_wp2_with fail
      go_ret
      exact ⟨ret_bool HS.out.symm, ((Kp.refl _ _).alloc _).alloc _⟩
end Go.Proofs.Ytgdnhlckodhhgaa
