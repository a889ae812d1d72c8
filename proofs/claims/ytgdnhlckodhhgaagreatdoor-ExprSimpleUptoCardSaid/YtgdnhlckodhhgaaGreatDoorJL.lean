/-
  The asker: the nodes of an expression.
-/
import Derived.Test.YtgdnhlckodhhgaaGreatDoorJK
import Derived.Test.YtgdnhlckodhhgaaGreatDoorJI
import Derived.Test.YtgdnhlckodhhgaaGreatDoorJC
import Derived.Test.YtgdnhlckodhhgaaGreatDoorJE
import Derived.Laws.BytesArg
namespace Go.Proofs.YtgdnhlckodhhgaaGreatDoor
open Go.RowKit
set_option linter.unusedVariables false
set_option linter.unusedSimpArgs false
theorem ptr_cells {w : World} {b : Nat} {p : Option Addr} {t : TypeId} (h : w.heap[b]? = some (.cells #[.pointer p] t (0, 0))) : ∀ j v, [Value.pointer p][j]? = some v → w.cell? ((⟨b, 0, none⟩ : Addr).add j) = some v := by
  intro j v hv
  cases j with
  | zero =>
    simp only [List.getElem?_cons_zero, Option.some.injEq] at hv
    subst hv
    simp [World.cell?, Addr.add, h]
  | succ j => simp at hv
theorem ptr_one {p : Option Addr} : ∀ v ∈ [Value.pointer p], v.oneCell' = true := by
  intro v hv
  simp at hv
  subst hv; rfl
theorem own_kp {w w1 : World} {S : List Nat} {e : TypeId} {size n : Nat} {v : Value} {xs : List Value} (h : w.ownsRow 0 e size v n xs) (k : Kp S w w1) (hs : ∀ x, v.ownBlock = some x → x ∉ S) : w1.ownsRow 0 e size v n xs := by
  obtain ⟨h1, h2⟩ := h
  refine ⟨h1, ?_⟩
  rcases h2 with h2 | ⟨g, cap, cur, rfl, h0, h3, r⟩
  · exact .inl h2
  · exact .inr ⟨g, cap, cur, rfl, h0, (k.block g (Array.getElem?_eq_some_iff.1 h3).1 (hs g rfl)).trans h3, r⟩
/-- What stands while a node is made. -/
def NB (w : World) (M : Heap) (ga gm k : Nat) (e : E) (A : Option Addr) (c : Nat) (nv : Array Value) (wr : World) : Prop := Box wr M w.heap.size #[.int .i64 e.op, .string (bs e.s), .slice A e.l.length c] 24 ∧ Box wr M (w.heap.size + 1) nv 118 ∧ Mem wr M ∧ Box wr M ga #[.map (some gm), .int .i64 (k : Nat)] 115 ∧ Kp [ga] w wr
theorem NB.same {w wr w1 : World} {M : Heap} {ga gm k c : Nat} {e : E} {A : Option Addr} {nv : Array Value} (h : NB w M ga gm k e A c nv wr) (hk : Kp [] wr w1) : NB w M ga gm k e A c nv w1 := ⟨h.1.same hk (by simp), h.2.1.same hk (by simp), h.2.2.1.kp hk (by simp), h.2.2.2.1.same hk (by simp), h.2.2.2.2.trans (hk.mono (by simp))⟩
theorem NB.set {w wr : World} {M : Heap} {ga gm k c : Nat} {e : E} {A : Option Addr} {nv : Array Value} (h : NB w M ga gm k e A c nv wr) (hga : ga < w.heap.size) (i : Nat) (v : Value) : NB w M ga gm k e A c (nv.setIfInBounds i v) (wr.setCell ⟨w.heap.size + 1, i, none⟩ v) := by
  have hk : Kp [w.heap.size + 1] wr (wr.setCell ⟨w.heap.size + 1, i, none⟩ v) := (Kp.refl _ wr).setCell (.inl (by simp)) _
  exact ⟨h.1.same hk (by simp), h.2.1.set i v, h.2.2.1.kp hk (by simpa using h.2.1.out), h.2.2.2.1.same hk (by simp; omega), h.2.2.2.2.inner hk (by simp)⟩
theorem NB.drew {w wr : World} {M : Heap} {ga gm k c : Nat} {e : E} {A : Option Addr} {nv : Array Value} (h : NB w M ga gm k e A c nv wr) : NB w M ga gm k e A c nv wr.drew := ⟨h.1.drew, h.2.1.drew, h.2.2.1.drew, h.2.2.2.1.drew, h.2.2.2.2.drew⟩
/-- While its children are made: j of them are. -/
def NL (ss : List Bs) (k : Nat) (e : E) (w : World) (M : Heap) (ga gm : Nat) (A : Option Addr) (c j : Nat) (wr : World) : Prop := ∃ M' bl v, wr.ownsRow 0 67 1 v j (ptrs bl) ∧ (∀ x, v.ownBlock = some x → M' x = none ∧ w.heap.size + 1 < x ∧ x < wr.heap.size) ∧
  (∀ i, (h : i < bl.length) → (h2 : i < (mkNs ss (k + 1) (e.l.take j)).1.length) → NdM M' bl[i] (mkNs ss (k + 1) (e.l.take j)).1[i]) ∧ NB w M' ga gm (mkNs ss (k + 1) (e.l.take j)).2 e A c (nodeV k e.op (symN ss e.op e.s) v) wr ∧ Ext w.heap.size M M'
theorem NL.step {ss : List Bs} {k : Nat} {e : E} {w wr w8 w6 w7 : World} {M M' M6 : Heap} {ga gm b6 g1 cap1 kj : Nat} {A : Option Addr} {c j : Nat} {v : Value} {bl : List Nat} {x : E} (hga : ga < w.heap.size) (hv : ∀ x, v.ownBlock = some x → M' x = none ∧ w.heap.size + 1 < x ∧ x < wr.heap.size)
    (hnd : ∀ i, (h : i < bl.length) → (h2 : i < (mkNs ss (k + 1) (e.l.take j)).1.length) → NdM M' bl[i] (mkNs ss (k + 1) (e.l.take j)).1[i]) (hE : Ext w.heap.size M M') (hbl : bl.length = j) (hjl : j < e.l.length) (hsz : w8.heap.size = wr.heap.size + 1) (hNB : NB w M' ga gm kj e A c (nodeV k e.op (symN ss e.op e.s) v) w8)
    (hN6 : NdM M6 b6 (mkN ss kj x).1) (hM6 : Mem w6 M6) (hE6 : Ext w8.heap.size M' M6) (hB6 : Box w6 M6 ga #[.map (some gm), .int .i64 ((mkN ss kj x).2 : Nat)] 115) (hK6 : Kp [ga] w8 w6)
    (hown : w7.ownsRow 0 67 1 (.slice (some ⟨g1, 0, none⟩) (j + 1) cap1) (j + 1) (ptrs bl ++ [.pointer (some ⟨b6, 0, none⟩)])) (hat : v.ownBlock = some g1 ∨ g1 = (w6.alloc (.cells #[.pointer (some ⟨b6, 0, none⟩)] 67)).heap.size) (hlt : g1 < w7.heap.size)
    (hK7 : Kp v.ownBlock.toList (w6.alloc (.cells #[.pointer (some ⟨b6, 0, none⟩)] 67)) w7) (hsn : mkNs ss (k + 1) (e.l.take (j + 1)) = ((mkNs ss (k + 1) (e.l.take j)).1 ++ [(mkN ss kj x).1], (mkN ss kj x).2)) :
    NL ss k e w M ga gm A c (j + 1) (w7.setCell ⟨w.heap.size + 1, 3, none⟩ (.slice (some ⟨g1, 0, none⟩) (j + 1) cap1)) := by
  have hs6 := hK6.size
  have hs7 := hK7.size
  simp only [World.size_alloc] at hs7
  have hw : w.heap.size + 1 < w8.heap.size := hNB.2.1.lt
  have hk9 : Kp [w.heap.size + 1] w7 (w7.setCell ⟨w.heap.size + 1, 3, none⟩ (.slice (some ⟨g1, 0, none⟩) (j + 1) cap1)) := (Kp.refl _ w7).setCell (.inl (by simp)) _
  have hg1 : M6 g1 = none ∧ w.heap.size + 1 < g1 := by
    rcases hat with h | h
    · obtain ⟨h1, h2, h3⟩ := hv g1 h
      exact ⟨hE6.no h1 (by omega), h2⟩
    · simp only [World.size_alloc] at h
      exact ⟨hM6.ge (by omega), by omega⟩
  have hvn : ∀ y, y ∈ v.ownBlock.toList → M6 y = none ∧ w.heap.size + 1 < y := by
    intro y hy
    obtain ⟨h1, h2, h3⟩ := hv y (by simpa using hy)
    exact ⟨hE6.no h1 (by omega), h2⟩
  have hne : ∀ y, y ≤ w.heap.size + 1 → y ∉ v.ownBlock.toList := fun y hy h => by have := (hvn y h).2; omega
  refine ⟨M6, bl ++ [b6], .slice (some ⟨g1, 0, none⟩) (j + 1) cap1, own_kp (by simpa [ptrs] using hown) hk9 (fun y hy => ?_), fun y hy => ?_, ?_, ⟨?_, ?_, ?_, ?_, ?_⟩, hE.trans hE6 (by omega)⟩
  · simp only [Value.ownBlock, Option.some.injEq] at hy
    subst hy
    simp; omega
  · simp only [Value.ownBlock, Option.some.injEq] at hy
    subst hy
    exact ⟨hg1.1, hg1.2, by have := hk9.size; omega⟩
  · intro i hi h2
    have hln : (mkNs ss (k + 1) (e.l.take j)).1.length = j := by rw [mkNs_len]; simp; omega
    have e1 : (mkNs ss (k + 1) (e.l.take (j + 1))).1 = (mkNs ss (k + 1) (e.l.take j)).1 ++ [(mkN ss kj x).1] := by rw [hsn]
    simp only [List.length_append, List.length_cons, List.length_nil] at hi
    have e2 : (mkNs ss (k + 1) (e.l.take (j + 1))).1[i] = ((mkNs ss (k + 1) (e.l.take j)).1 ++ [(mkN ss kj x).1])[i]'(by simp; omega) := by simp only [e1]
    rw [e2]
    by_cases h3 : i < j
    · rw [List.getElem_append_left (by omega), List.getElem_append_left (by omega)]
      exact (hnd i (by omega) (by omega)).ext hE6
    · obtain rfl : i = j := by omega
      rw [List.getElem_append_right (by omega), List.getElem_append_right (by omega)]
      simp only [hbl, hln, Nat.sub_self, List.getElem_cons_zero]
      exact hN6
  · exact (((hNB.1.kp hK6 (by simp; omega) hE6 (by omega)).alloc _).same hK7 (hne _ (by omega))).same hk9 (by simp)
  · exact (((hNB.2.1.kp hK6 (by simp; omega) hE6 (by omega)).alloc _).same hK7 (hne _ (by omega))).set 3 _
  · exact ((hM6.alloc _).kp hK7 (fun y hy => (hvn y hy).1)).kp hk9 (by simpa using (hNB.2.1.kp hK6 (by simp; omega) hE6 (by omega)).out)
  · rw [hsn]
    exact ((hB6.alloc _).same hK7 (hne _ (by omega))).same hk9 (by simp; omega)
  · exact (((hNB.2.2.2.2.trans hK6).alloc _).inner hK7 (fun y hy => .inr (by have := (hvn y hy).2; omega))).inner hk9 (by simp)
set_option maxRecDepth 100000 in
set_option maxHeartbeats 8000000 in
theorem Node_calls {ss : List Bs} {As : Option Addr} {cs ga gm : Nat} (hl : ss.length ≤ 40) (d : Nat) : ∀ (e : E) (A : Option Addr) (c k : Nat) (w : World) (M : Heap), ExV M e A c → Syms (fun s => bsF ss s = true) d e → e.size ≤ 1000000 → k + e.size ≤ 1000000 → WsM M As ss → Mem w M → Box w M ga #[.map (some gm), .int .i64 (k : Nat)] 115 →
    Calls Tryz.prog 39 #[.pointer (some ⟨ga, 0, none⟩), .agg #[.int .i64 e.op, .string (bs e.s), .slice A e.l.length c], .slice As ss.length cs] w fun en w' => ∃ b M', en = .returned (.pointer (some ⟨b, 0, none⟩)) ∧ NdM M' b (mkN ss k e).1 ∧ Mem w' M' ∧ Ext w.heap.size M M' ∧ Box w' M' ga #[.map (some gm), .int .i64 ((mkN ss k e).2 : Nat)] 115 ∧ Kp [ga] w w' := by
  induction d with
  | zero => intro e A c k w M _ h; exact h.elim
  | succ d ih =>
    intro e A c k w M he hsy hsz hks hws hM hB
    obtain ⟨i0, hi, hzz⟩ := Option.map_eq_some_iff.1 Tryz.infoP
    simp only [Prod.mk.injEq] at hzz
    obtain ⟨hz0, hz1, hz2⟩ := hzz
    have HI := Hid.mk (And.intro hi (And.intro hz0 (And.intro hz1 hz2)))
    obtain ⟨hs1, hs2⟩ := hsy
    have hga := hB.lt
    have c1 : w.cell? ⟨ga, 1, none⟩ = some (.int .i64 (k : Nat)) := hB.cell 1
    have f1 : w.frozen? ⟨ga, 1, none⟩ = false := hB.free 1
    have hka : Kp [ga] w (w.setCell ⟨ga, 1, none⟩ (.int .i64 ((k : Int) + 1))) := (Kp.refl [ga] w).setCell (.inl (by simp)) _
    have hMa := hM.kp hka (by simpa using hB.out)
    have hBa : Box (w.setCell ⟨ga, 1, none⟩ (.int .i64 ((k : Int) + 1))) M ga #[.map (some gm), .int .i64 ((k + 1 : Nat) : Int)] 115 := by
      have := hB.set 1 (.int .i64 ((k : Int) + 1))
      simpa using this
    have hza : (w.setCell ⟨ga, 1, none⟩ (.int .i64 ((k : Int) + 1))).heap.size = w.heap.size := by simp [World.setCell]
    obtain ⟨hb0, hb1⟩ := two_boxesH hMa #[.int .i64 e.op, .string (bs e.s), .slice A e.l.length c] (nodeV k e.op [] (.slice none 0 0)) 24 118
    rw [hza] at hb0 hb1
    have HBB : Hid (NB w M ga gm (k + 1) e A c (nodeV k e.op [] (.slice none 0 0)) (((w.setCell ⟨ga, 1, none⟩ (.int .i64 ((k : Int) + 1))).alloc (.cells #[.int .i64 e.op, .string (bs e.s), .slice A e.l.length c] 24)).alloc (.cells #[.int .i64 (k : Nat), .int .i64 e.op, .string ⟨#[]⟩, .slice none 0 0] 118)).drew) := Hid.mk (And.intro hb0.drew (And.intro hb1.drew (And.intro ((hMa.alloc (.cells #[.int .i64 e.op, .string (bs e.s), .slice A e.l.length c] 24)).alloc (.cells (nodeV k e.op [] (.slice none 0 0)) 118)).drew (And.intro ((hBa.alloc (.cells #[.int .i64 e.op, .string (bs e.s), .slice A e.l.length c] 24)).alloc (.cells (nodeV k e.op [] (.slice none 0 0)) 118)).drew ((hka.alloc (.cells #[.int .i64 e.op, .string (bs e.s), .slice A e.l.length c] 24)).alloc (.cells (nodeV k e.op [] (.slice none 0 0)) 118)).drew))))
    clear hka hMa hBa hb0 hb1
    have HS1 := Hid.mk hs1
    have HS2 := Hid.mk hs2
    have HE := Hid.mk he
    have HWS := Hid.mk hws
    have HB := Hid.mk hB
    clear hi hz0 hz1 hz2 hs1 hs2 he hws hB hM
    go_enter Tryz.func39, Tryz.ntmps39
    go_wp2_with fail
    go_region
    go_upto_if 29 with fail
    generalize (((w.setCell ⟨ga, 1, none⟩ (.int .i64 ((k : Int) + 1))).alloc (.cells #[.int .i64 e.op, .string (bs e.s), .slice A e.l.length c] 24)).alloc (.cells #[.int .i64 (k : Nat), .int .i64 e.op, .string ⟨#[]⟩, .slice none 0 0] 118)).drew = w3 at *
    clear c1 f1 hza
    go_cut [8, 9] from 29 to 42 (fun v8 v9 wy => NB w M ga gm (k + 1) e A c (nodeV k e.op (symN ss e.op e.s) (.slice none 0 0)) wy)
    case first =>
      by_cases h0 : e.op = 0
      · have b0 : (e.op == 0) = true := by rw [h0]; rfl
        obtain ⟨hx0, hx1, hxM, hxa, hxk⟩ := HBB.out
        obtain ⟨hsf, hsl⟩ := HS1.out h0
        obtain ⟨⟨p0, p1, p2⟩, _, _, _⟩ := hx0.three
        have hlt1 := hx1.lt
        have hM1 := (hxM.alloc (.cells #[.string (bs e.s)] 9)).put (heap_alloc_new w3 (.cells #[.string (bs e.s)] 9))
        have hE1 : Ext w3.heap.size M (M.put w3.heap.size (.cells #[.string (bs e.s)] 9)) := Ext.put (Nat.le_refl _) hxM.new
        have HW := Hid.mk (Word_calls (c := cs) (d := 1) (wsm_ext HWS.out hE1) (by omega) (one_cell (heap_alloc_new w3 (.cells #[.string (bs e.s)] 9))) (by simp) _ hM1)
        have hkl : bsK ss e.s < ss.length := by
          have := hsf
          simp only [bsF, Bool.and_eq_true, decide_eq_true_eq] at this
          exact this.1
        rw [wordK_all (ss := ss) (ws := [e.s]) (fun x hx => by simp at hx; rw [hx]; exact hsf)] at HW
        have HSN := Hid.mk (show symN ss e.op e.s = toBs [bsK ss e.s] by rw [symN, if_pos h0, wordK_all (ss := ss) (ws := [e.s]) (fun x hx => by simp at hx; rw [hx]; exact hsf)]; rfl)
        have HH := Hid.mk (And.intro hM1 hE1)
        clear h0 hM1 hE1 hsf hx0 hx1 hxM hxa hxk
        go_wp2_with fail
        refine HW.out.mono ?_
        rintro en w5 ⟨hk5, hM5, g, cap, rfl, hsl5, hg5⟩
        have HZ := Hid.mk (And.intro hk5 (And.intro hM5 hsl5))
        have hkz := hk5.size
        simp only [World.size_alloc] at hkz
        clear hk5 hM5 hsl5
        go_wp2_with fail
        refine (Bytes_calls (ks := wkGo ss [e.s]) (by intro x hx; simp [wkGo] at hx; omega) (by simp [wkGo]) _ HZ.out.2.1 HZ.out.2.2).mono ?_
        rintro en w6 ⟨rfl, hk6, hM6⟩
        have hNB6 := (HBB.out.same ((((Kp.refl [] w3).alloc (.cells #[.string (bs e.s)] 9)).trans HZ.out.1).trans hk6))
        have hlt6 := hNB6.2.1.lt
        have f2 := hNB6.2.1.free 2
        have b2 : w6.cell? ⟨w.heap.size + 1, 2, none⟩ = some (.string (bs [])) := hNB6.2.1.cell 2
        have HN6 := Hid.mk hNB6
        clear hNB6 hk6 hM6
        go_wp2_with fail
        go_meet
        case rel =>
          have h9 := HN6.out.set hga 2 (.string (bs (symN ss e.op e.s)))
          have e9 : toBs (wkGo ss [e.s]) = symN ss e.op e.s := by rw [HSN.out]; rfl
          rw [e9]
          exact h9
      · have b0 : (e.op == 0) = false := by simpa using h0
        have HSN := Hid.mk (show symN ss e.op e.s = [] from if_neg h0)
        clear h0
        go_wp2_with fail
        go_meet
        case rel =>
          rw [HSN.out]
          exact HBB.out
    case rest =>
      obtain ⟨⟨p0, p1, p2⟩, _, _, _⟩ := hcut.1.three
      have HC := Hid.mk hcut
      clear hcut HBB
      go_wp2_with fail
      clear p0 p1 p2
      go_loopg [46] e.l.length (fun kk v wr => ∃ j : Nat, j ≤ e.l.length ∧ kk = e.l.length - j ∧ v = .int .i64 (j : Nat) ∧ NL ss k e w M ga gm A c j wr)
      case atStart =>
        refine ⟨0, Nat.zero_le _, by simp, rfl, M, [], .slice none 0 0, ⟨rfl, .inl ⟨rfl, rfl⟩⟩, fun x hx => by simp [Value.ownBlock] at hx, fun i h => by simp at h, ?_, Ext.refl _ _⟩
        simpa [mkNs] using HC.out
      case round =>
        clear HC
        obtain ⟨j, hj, hkk, rfl, M', bl, v, hown, hv, hnd, hNB, hE'⟩ := hrel
        by_cases hlt : j < e.l.length
        · have HE2 := Hid.mk (HE.out.ext hE')
          obtain ⟨bb, o, rfl⟩ := HE2.out.place (by omega)
          obtain ⟨A', c', k0, k1, k2, hx⟩ := HE2.out.at_ j hlt
          have q0 := hNB.2.2.1.cell k0
          have q1 := hNB.2.2.1.cell k1
          have q2 := hNB.2.2.1.cell k2
          have hjs := size_mem (List.getElem_mem hlt)
          have hjl := length_sizes e.l[j].l
          have hje := E.size_eq e.l[j]
          have hes := E.size_eq e
          have HX := Hid.mk (And.intro hx (HS2.out _ (List.getElem_mem hlt)))
          clear k0 k1 k2 hx
          have hst := sizes_take e.l j hlt
          have hsl := sizes_le e.l (j + 1)
          have hcn := mkNs_count ss (k + 1) (e.l.take j)
          have HSN := Hid.mk ((congrArg (mkNs ss (k + 1)) (List.take_append_getElem hlt).symm).trans (mkNs_snoc ss e.l[j] (e.l.take j) (k + 1)))
          have hll := length_sizes e.l
          have hbl : bl.length = j := by have := hown.1; simpa [ptrs] using this
          generalize hkk2 : (mkNs ss (k + 1) (e.l.take j)).2 = kj at *
          have HKJ := Hid.mk hkk2
          have hM8 := hNB.2.2.1.alloc (.cells #[.int .i64 e.l[j].op, .string (bs e.l[j].s), .slice A' e.l[j].l.length c'] 24)
          have hK8 := (Kp.refl [] wr).alloc (.cells #[.int .i64 e.l[j].op, .string (bs e.l[j].s), .slice A' e.l[j].l.length c'] 24)
          have hx8 := Box.new hNB.2.2.1 #[.int .i64 e.l[j].op, .string (bs e.l[j].s), .slice A' e.l[j].l.length c'] 24
          have hNB8 := hNB.same hK8
          have hown8 := own_alloc hown (.cells #[.int .i64 e.l[j].op, .string (bs e.l[j].s), .slice A' e.l[j].l.length c'] 24)
          have hltr := hNB.2.1.lt
          have hsz8 : (wr.alloc (.cells #[.int .i64 e.l[j].op, .string (bs e.l[j].s), .slice A' e.l[j].l.length c'] 24)).heap.size = wr.heap.size + 1 := by simp
          have HV := Hid.mk (And.intro hv (And.intro hnd (And.intro hE' (And.intro hcn (And.intro hbl hK8)))))
          clear hv hnd hE' hown hNB hcn hK8 hkk2
          go_upto_region 9 with fail
          clear q0 q1 q2
          generalize wr.alloc (.cells #[.int .i64 e.l[j].op, .string (bs e.l[j].s), .slice A' e.l[j].l.length c'] 24) = w8 at *
          obtain ⟨⟨z0, z1, z2⟩, _, _, _⟩ := hx8.three
          have y3 : w8.cell? ⟨w.heap.size + 1, 3, none⟩ = some v := hNB8.2.1.cell 3
          have HIH := Hid.mk (ih e.l[j] A' c' kj w8.drew M' HX.out.1 HX.out.2 (by omega) (by have := HV.out.2.2.2.1; omega) (wsm_ext HWS.out HV.out.2.2.1) hM8.drew hNB8.2.2.2.1.drew)
          have HNB8 := Hid.mk hNB8
          have HOW := Hid.mk hown8
          have hbig : (j + 1 ≤ maxLen) ∧ (j + 1) * 8 ≤ 140737488355328 := by unfold maxLen; omega
          have HBG := Hid.mk hbig
          clear hNB8 hown8 hM8 hx8 hbig hjs hjl hje hst hsl
          go_region_law (first | (go_simp; go_at_call 39; refine HIH.out.mono ?_; rintro en w6 ⟨b6, M6, rfl, hN6, hM6, hE6, hB6, hK6⟩; have hown6 : w6.ownsRow 0 67 1 v j (ptrs bl) := own_kp (w := w8.drew) HOW.out hK6 (fun x hx h => by have := (HV.out.1 x hx).2.1; simp at h; omega); have y6 : w6.cell? ⟨w.heap.size + 1, 3, none⟩ = some v := (HNB8.out.2.1.drew.same hK6 (by simp; omega)).cell 3; have y7 : ∀ o, (w6.alloc o).cell? ⟨w.heap.size + 1, 3, none⟩ = some v := fun o => ((HNB8.out.2.1.drew.same hK6 (by simp; omega)).alloc o).cell 3) | (refine step_append_lies _ (by rfl) (.tmp 54) (.tmp 59) 116 rfl 0 67 i0 (.pointer none) 1 8 Tryz.underlying116 HI.out.1 HI.out.2.1 HI.out.2.2.1 HI.out.2.2.2 rfl (Nat.succ_pos 0) v j (ptrs bl) (by simp [Act.eval, Act.put]) (own_alloc hown6 _) ⟨_, 0, none⟩ 1 1 [.pointer (some ⟨b6, 0, none⟩)] (by simp [Act.eval, Act.put]) rfl (ptr_cells (heap_alloc_new _ _)) ptr_one Nat.one_pos HBG.out.1 HBG.out.2 (Nat.zero_le _) _ rfl ?_; intro g1 cap1 w7 hown7 hgr7 hat7 hlt7; have hK7 := Kp.grown (S := v.ownBlock.toList) (Kp.refl _ _) hgr7 (fun x hx => .inl (by rw [hx]; simp)); have hb7 := ((HNB8.out.2.1.drew.same hK6 (by simp; omega)).alloc (.cells #[.pointer (some ⟨b6, 0, none⟩)] 67)).same hK7 (fun hx => by have := (HV.out.1 _ (by simpa using hx)).2.1; omega); have y8 : w7.cell? ⟨w.heap.size + 1, 3, none⟩ = some v := hb7.cell 3; have f8 : w7.frozen? ⟨w.heap.size + 1, 3, none⟩ = false := hb7.free 3; have hlt8 := hb7.lt))
          all_goals
            have hNLn := Hid.mk (NL.step (w8 := w8.drew) hga HV.out.1 HV.out.2.1 HV.out.2.2.1 HV.out.2.2.2.2.1 hlt hsz8 HNB8.out.drew hN6 hM6 hE6 hB6 hK6 hown7 hat7 hlt7 hK7 HSN.out)
            clear y8 f8 y6 y7 hown6 hK7 hb7 hown7 hgr7 hat7 hN6 hM6 hE6 hB6 hK6
            go_wp2_with fail
            go_roundg (e.l.length - (j + 1))
            case measure => omega
            case rel => exact ⟨j + 1, by omega, rfl, by go_num, hNLn.out⟩
        · obtain rfl : j = e.l.length := by omega
          have hnlt : ¬ ((e.l.length : Int) < (e.l.length : Int)) := by omega
          have HZ := Hid.mk (And.intro hown (And.intro hv (And.intro hnd (And.intro hNB hE'))))
          clear hown hv hnd hNB hE'
          go_wp2_with fail
          go_ret
          obtain ⟨hown, hv, hnd, hNB, hE'⟩ := HZ.out
          rw [List.take_length] at hnd hNB
          obtain ⟨M9, hN9, hM9, hE9⟩ := node_done hNB.2.1 hNB.2.2.1 hown (m := w.heap.size) (fun x hx => ⟨(hv x hx).1, by have := (hv x hx).2.1; omega⟩) (by omega) (mkNs_len ss e.l (k + 1)) hnd
          rw [mkN_eq]
          exact ⟨_, rfl, M9, hN9, hM9, hE'.trans hE9 (Nat.le_refl _), ⟨hNB.2.2.2.1.blk, hE9.no hNB.2.2.2.1.out hga⟩, hNB.2.2.2.2⟩
end Go.Proofs.YtgdnhlckodhhgaaGreatDoor

/-
  expr.Holds: where all is right.
-/
namespace Go.Proofs.YtgdnhlckodhhgaaGreatDoor
open Go.RowKit
set_option linter.unusedVariables false
set_option linter.unusedSimpArgs false
theorem wordK_some {ss ws : List Bs} {ks : List Nat} (h : wordK ss ws = some ks) : ks = wkGo ss ws ∧ ∀ x ∈ ws, bsF ss x = true := by
  have ha : ∀ x ∈ ws, bsF ss x = true := by
    intro x hx
    cases hb : bsF ss x with
    | true => rfl
    | false => rw [wordK_none hx hb] at h; cases h
  rw [wordK_all ha] at h
  exact ⟨(Option.some.inj h).symm, ha⟩
theorem bsF_lt {ss : List Bs} {x : Bs} (h : bsF ss x = true) : bsK ss x < ss.length := by
  simp only [bsF, Bool.and_eq_true, decide_eq_true_eq] at h
  exact h.1
set_option maxRecDepth 100000 in
set_option maxHeartbeats 8000000 in
theorem eHolds_ok {e : E} {ss ws : List Bs} {M : Heap} {A Aw As : Option Addr} {c cs cw d d2 : Nat} {V : Nat → Bs → Bool} {ks : List Nat} (he : ExV M e A c) (hv : verdict e = 0) (hwd : e.wide ≤ 1099511627776) (ha : Alpha ss) (hss : WsM M As ss) (hcs : ss.length ≤ cs) (hws : WsM M Aw ws) (hcw : ws.length ≤ cw)
    (hwe : wordErr ws = 0) (hlw : ws.length ≤ 10) (hsw : ∀ s, s ∈ ws → s.length ≤ 1099511627776) (hk : wordK ss ws = some ks) (hsy : Syms (fun s => bsF ss s = true) d e) (hnu : Nums V d2 (mkN ss 0 e).1) (hok : Okn d2 (mkN ss 0 e).1) (w : World) (hM : Mem w M) :
    Calls Tryz.prog 10 #[.agg #[.int .i64 e.op, .string (bs e.s), .slice A e.l.length c], .slice As ss.length cs, .slice Aw ws.length cw] w fun en w' => en = .returned (.tuple #[.bool (ev (mkN ss 0 e).1 (toBs ks)), .int .i64 0]) ∧ Kp [] w w' := by
  obtain ⟨hks, hall⟩ := wordK_some hk
  have hsz : e.size ≤ 40 := by
    rw [verdict] at hv
    split at hv
    · cases hv
    · omega
  have hls := length_sizes e.l
  have hes := E.size_eq e
  have hkl : ks.length = ws.length := by rw [hks]; simp [wkGo]
  have hk256 : ∀ k ∈ ks, k < 256 := by
    intro k hk
    rw [hks] at hk
    simp only [wkGo, List.mem_map] at hk
    obtain ⟨x, hx, rfl⟩ := hk
    have := bsF_lt (hall x hx)
    have := ha.1
    omega
  have H1 := Hid.mk (And.intro hss (And.intro hws (And.intro hk256 (And.intro hsy (And.intro hnu hok)))))
  have hsl := ha.1
  have hb0 := Box.new hM #[.int .i64 e.op, .string (bs e.s), .slice A e.l.length c] 24
  have hM0 := hM.alloc (.cells #[.int .i64 e.op, .string (bs e.s), .slice A e.l.length c] 24)
  have HM := Hid.mk (And.intro hM (And.intro hM0 hb0))
  obtain ⟨⟨p0, p1, p2⟩, _, _, _⟩ := hb0.three
  have HV := Hid.mk (Validate_calls e A c (w.alloc (.cells #[.int .i64 e.op, .string (bs e.s), .slice A e.l.length c] 24)) M he hM0 (by omega) hwd)
  rw [hv] at HV
  have HW := Hid.mk (fun w (hM : Mem w M) => ValidateWord_calls ws Aw cw M w hM hws hsw (by omega) hcw)
  rw [hwe] at HW
  have HA := Hid.mk (fun w (hM : Mem w M) => Alpha_calls ha hss hcs w hM)
  have HWd := Hid.mk (fun w (hM : Mem w M) => Word_calls (c := cs) (d := cw) hss (by omega) hws (by omega) w hM)
  rw [hk] at HWd
  have HK := Hid.mk (fun w (hM : Mem w M) => eknown_calls (c := cs) hsy he (by omega) (by omega) hss (by omega) w hM)
  have HNd := Hid.mk (fun ga gm w (hM : Mem w M) hx => Node_calls (ss := ss) (As := As) (cs := cs) (ga := ga) (gm := gm) hsl d e A c 0 w M he hsy (by omega) (by omega) hss hM hx)
  have hgt : ¬ ((10 : Int) < (ws.length : Int)) := by omega
  clear hb0 hM0 he hv hss hws hwe hk hall hk256 hsy hnu hok hM ha hks
  go_enter Tryz.func10, Tryz.ntmps10
  go_wp2_with fail
  refine HV.out.mono ?_
  rintro en w2 ⟨rfl, hk2⟩
  have hM2 := HM.out.2.1.kp hk2 (by simp)
  have hb2 := HM.out.2.2.same hk2 (by simp)
  have HA2 := Hid.mk (HA.out w2 hM2)
  have HW2 := Hid.mk (HW.out w2 hM2)
  have HWd2 := Hid.mk (HWd.out w2 hM2)
  have H2 := Hid.mk (And.intro hM2 (And.intro hb2 hk2))
  clear p0 p1 p2 hM2 hb2 hk2
  go_wp2_with (first | (go_at_call 32; refine HA2.out.mono ?_; rintro e w' ⟨rfl, rfl⟩) | (go_at_call 33; refine HW2.out.mono ?_; rintro e w' ⟨rfl, rfl⟩))
  refine HWd2.out.mono ?_
  rintro en w3 ⟨hk3, hM3, g, cap, rfl, hsl3, hg3⟩
  have hb3 := H2.out.2.1.same hk3 (by simp)
  obtain ⟨⟨p0, p1, p2⟩, _, _, _⟩ := hb3.three
  have H3 := Hid.mk (And.intro hM3 (And.intro hb3 (And.intro hk3 hsl3)))
  clear hM3 hb3 hk3 hsl3
  go_wp2_with fail
  refine (HK.out w3 H3.out.1).mono ?_
  rintro en w4 ⟨rfl, hk4⟩
  have hM4 := H3.out.1.kp hk4 (by simp)
  have hb4 := H3.out.2.1.same hk4 (by simp)
  have H4 := Hid.mk (And.intro hM4 (And.intro hb4 hk4))
  clear p0 p1 p2
  obtain ⟨⟨p0, p1, p2⟩, _, _, _⟩ := hb4.three
  clear hM4 hb4 hk4
  go_wp2_with fail
  refine (New_calls w4).mono ?_
  rintro en w5 ⟨rfl, hw5⟩
  have hM5 : Mem w5 M := by rw [hw5]; exact (H4.out.1.alloc _).alloc _
  have hBa : Box w5 M (w4.heap.size + 1) #[.map (some w4.heap.size), .int .i64 ((0 : Nat) : Int)] 115 := by
    have := Box.new (H4.out.1.alloc (.map #[] 0)) #[.map (some w4.heap.size), .int .i64 ((0 : Nat) : Int)] 115
    rw [hw5]
    simpa using this
  have hBm : Blk w5 M w4.heap.size (.map #[] 0) := by rw [hw5]; exact (Blk.new H4.out.1 _).alloc _
  have hk5 : Kp [] w4 w5 := by rw [hw5]; exact ((Kp.refl _ _).alloc _).alloc _
  have hb5 := H4.out.2.1.same hk5 (by simp)
  obtain ⟨⟨r0, r1, r2⟩, _, _, _⟩ := hb5.three
  have H5 := Hid.mk (And.intro hM5 (And.intro hBa (And.intro hBm hk5)))
  have hlt5 := hBa.lt
  clear hM5 hBa hBm hk5 hb5 hw5 p0 p1 p2
  go_wp2_with fail
  refine (HNd.out _ _ w5 H5.out.1 H5.out.2.1).mono ?_
  rintro en w6 ⟨b6, M6, rfl, hN6, hM6, hE6, hB6, hK6⟩
  have hsl6 := (((H3.out.2.2.2.same H4.out.2.2 (by simp)).same H5.out.2.2.2 (by simp))).kp hK6 (by have := H3.out.2.2.2.lt; have := H4.out.2.2.size; simp; omega) hE6 (by have := H3.out.2.2.2.lt; have := H4.out.2.2.size; have := H5.out.2.2.2.size; omega)
  have HB := Hid.mk (Bytes_calls (ks := ks) H1.out.2.2.1 (by omega) w6 hM6 hsl6)
  rw [hkl] at HB
  have hBm6 : Blk w6 M6 w4.heap.size (.map #[] 0) := ⟨(hK6.block _ (by omega) (by simp)).trans H5.out.2.2.1.blk, hE6.no H5.out.2.2.1.out (by omega)⟩
  have H6 := Hid.mk (And.intro hN6 (And.intro hM6 (And.intro hB6 (And.intro hBm6 hK6))))
  clear hN6 hM6 hE6 hB6 hK6 hsl6 hBm6 r0 r1 r2
  go_wp2_with fail
  refine HB.out.mono ?_
  rintro en w7 ⟨rfl, hk7, hM7⟩
  have HHo := Hid.mk (Holds_calls (M := M6) (ga := w4.heap.size + 1) (gm := w4.heap.size) (V := V) (Nat.le_refl 10) d2 _ b6 H6.out.1 H1.out.2.2.2.2.1 H1.out.2.2.2.2.2 (toBs ks) w7 (by simp [toBs, hkl]; omega) hM7 ⟨_, #[], 0, H6.out.2.2.1.same hk7 (by simp), H6.out.2.2.2.1.same hk7 (by simp), fun x hx => by simp at hx, by omega⟩)
  have H7 := Hid.mk (And.intro hk7 hM7)
  clear hk7 hM7
  go_wp2_with fail
  refine HHo.out.mono ?_
  rintro en w8 ⟨rfl, hM8, hA8, hK8⟩
  have H8 := Hid.mk hK8
  clear hM8 hA8 hK8
  go_wp2_with fail
  go_ret2
  have hk4 := (((((Kp.refl [] w).alloc (.cells #[.int .i64 e.op, .string (bs e.s), .slice A e.l.length c] 24)).trans H2.out.2.2).trans H3.out.2.2.1).trans H4.out.2.2)
  have hz4 := hk4.size
  exact ⟨rfl, (((hk4.trans H5.out.2.2.2).inner H6.out.2.2.2.2 (by simp; omega)).trans H7.out.1).inner H8.out (by simp; omega)⟩
end Go.Proofs.YtgdnhlckodhhgaaGreatDoor

/-
  The law's own example: [a b] / x is read, and holds x a x x b.
-/
namespace Go.Proofs.YtgdnhlckodhhgaaGreatDoor
open Go.RowKit
set_option linter.unusedVariables false
set_option linter.unusedSimpArgs false
def exS : Bs := [91, 97, 32, 98, 93, 32, 47, 32, 120]
def exE : E := .mk 13 [] [.mk 4 [] [.mk 0 [97] [], .mk 0 [98] []], .mk 0 [120] []]
def exA : List Bs := [[97], [98], [120]]
def exW : List Bs := [[120], [97], [120], [120], [98]]
theorem exG : G 60 (.lv 0 exS) = some (.ok (exE, [])) := by rfl
theorem ex_verdict : verdict exE = 0 := by rfl
theorem ex_reads : Reads exS (exE, 0, 0) := .inr ⟨by decide, 60, _, exG, by rfl⟩
theorem ex_N : (mkN exA 0 exE).1 = exNd := by rfl
theorem ex_W : wordK exA exW = some [2, 0, 2, 2, 1] := by rfl
theorem ex_alpha : Alpha exA := ⟨by decide, by decide +kernel, by decide +kernel, fun i h => by
  have h2 : i < 2 := by simp [exA] at h; omega
  match i, h2 with
  | 0, _ => rfl
  | 1, _ => rfl⟩
theorem ex_wordErr : wordErr exW = 0 := by decide +kernel
theorem ex_syms : Syms (fun s => bsF exA s = true) 4 exE := by
  simp only [exE, Syms, E.op, E.s, E.l, List.mem_cons, List.not_mem_nil, or_false, forall_eq_or_imp, forall_eq]
  refine ⟨by decide, ⟨by decide, ⟨fun _ => ⟨by decide +kernel, by decide⟩, by simp⟩, ⟨fun _ => ⟨by decide +kernel, by decide⟩, by simp⟩⟩, ⟨fun _ => ⟨by decide +kernel, by decide⟩, by simp⟩⟩
def exV (n : Nat) : Bs → Bool := if n = 0 then ev exNd else if n = 1 then ev (.mk 1 4 [] [.mk 2 0 [0] [], .mk 3 0 [1] []]) else if n = 2 then ev (.mk 2 0 [0] []) else if n = 3 then ev (.mk 3 0 [1] []) else ev (.mk 4 0 [2] [])
theorem ex_nums : Nums exV 4 exNd := by
  simp only [exNd, Nums, List.mem_cons, List.not_mem_nil, or_false, forall_eq_or_imp, forall_eq]
  refine ⟨by decide, rfl, ⟨by decide, rfl, ⟨by decide, rfl, by simp⟩, ⟨by decide, rfl, by simp⟩⟩, ⟨by decide, rfl, by simp⟩⟩
theorem ex_okn : Okn 4 exNd := by
  simp only [exNd, Okn, Nd.op, Nd.l, List.mem_cons, List.not_mem_nil, or_false, forall_eq_or_imp, forall_eq]
  refine ⟨by simp, by simp, ⟨by simp, by simp, ⟨by simp, by simp, by simp⟩, ⟨by simp, by simp, by simp⟩⟩, ⟨by simp, by simp, by simp⟩⟩
theorem wsm_block {M : Heap} {b : Nat} {t : TypeId} {ws : List Bs} {fr : Nat × Nat} (h : M b = some (.cells (ws.map fun s => Value.string (bs s)).toArray t fr)) : WsM M (some ⟨b, 0, none⟩) ws := fun j hj => ⟨b, 0, rfl, by simp [cellM, h, List.getElem?_eq_getElem hj]⟩
theorem two_rows {w : World} {M : Heap} (hM : Mem w M) (o : Obj) (ss ws : List Bs) : ∃ M', Mem (((w.alloc o).alloc (.cells (ss.map fun s => Value.string (bs s)).toArray 9)).alloc (.cells (ws.map fun s => Value.string (bs s)).toArray 9)) M' ∧ WsM M' (some ⟨w.heap.size + 1, 0, none⟩) ss ∧ WsM M' (some ⟨w.heap.size + 2, 0, none⟩) ws ∧ Ext w.heap.size M M' := by
  have hM2 := hM.alloc o
  have hM3 := (hM2.alloc (.cells (ss.map fun s => Value.string (bs s)).toArray 9)).put (heap_alloc_new _ (.cells (ss.map fun s => Value.string (bs s)).toArray 9))
  have hE2 := Ext.put (n := w.heap.size) (o := .cells (ss.map fun s => Value.string (bs s)).toArray 9) (by simp) hM2.new
  have hM4 := (hM3.alloc (.cells (ws.map fun s => Value.string (bs s)).toArray 9)).put (heap_alloc_new _ (.cells (ws.map fun s => Value.string (bs s)).toArray 9))
  have hE3 := Ext.put (n := w.heap.size) (o := .cells (ws.map fun s => Value.string (bs s)).toArray 9) (by simp; omega) hM3.new
  simp only [World.size_alloc] at hM4 hE2 hE3
  refine ⟨_, hM4, wsm_ext (wsm_block (t := 9) (fr := (0, 0)) Heap.put_same) hE3, wsm_block (t := 9) (fr := (0, 0)) Heap.put_same, hE2.trans hE3 (Nat.le_refl _)⟩
theorem mem_none (w : World) : Mem w (fun _ => none) := fun b o h => by cases h
set_option maxRecDepth 100000 in
set_option maxHeartbeats 4000000 in
theorem known_calls (w : World) : Calls Tryz.prog 9 #[] w fun e w' => e = .returned (.bool true) ∧ Kp [] w w' := by
  obtain ⟨o, ho, hP⟩ := Parse_calls exS (by decide)
  obtain rfl := reads_one ho ex_reads
  have HP := Hid.mk (hP w _ (mem_none w))
  clear ho hP
  go_enter Tryz.func9, Tryz.ntmps9
  go_wp2_with fail
  refine HP.out.mono ?_
  rintro en w1 ⟨A, c, M1, rfl, he1, hM1, hE1, hk1⟩
  have hb1 := Box.new hM1 #[.int .i64 exE.op, .string (bs exE.s), .slice A exE.l.length c] 24
  obtain ⟨M4, hM4, hA4, hW4, hE4⟩ : ∃ M4, Mem (((w1.alloc (.cells #[.int .i64 exE.op, .string (bs exE.s), .slice A exE.l.length c] 24)).alloc (.cells #[.string ⟨#[97]⟩, .string ⟨#[98]⟩, .string ⟨#[120]⟩] 9)).alloc (.cells #[.string ⟨#[120]⟩, .string ⟨#[97]⟩, .string ⟨#[120]⟩, .string ⟨#[120]⟩, .string ⟨#[98]⟩] 9)) M4 ∧ WsM M4 (some ⟨w1.heap.size + 1, 0, none⟩) exA ∧ WsM M4 (some ⟨w1.heap.size + 2, 0, none⟩) exW ∧ Ext w1.heap.size M1 M4 := two_rows hM1 _ exA exW
  have hK4 := (((Kp.refl [] w1).alloc (.cells #[.int .i64 exE.op, .string (bs exE.s), .slice A exE.l.length c] 24)).alloc (.cells #[.string ⟨#[97]⟩, .string ⟨#[98]⟩, .string ⟨#[120]⟩] 9)).alloc (.cells #[.string ⟨#[120]⟩, .string ⟨#[97]⟩, .string ⟨#[120]⟩, .string ⟨#[120]⟩, .string ⟨#[98]⟩] 9)
  have hb4 := (hb1.alloc (.cells #[.string ⟨#[97]⟩, .string ⟨#[98]⟩, .string ⟨#[120]⟩] 9)).alloc (.cells #[.string ⟨#[120]⟩, .string ⟨#[97]⟩, .string ⟨#[120]⟩, .string ⟨#[120]⟩, .string ⟨#[98]⟩] 9)
  have HH := Hid.mk (eHolds_ok (c := c) (cs := 3) (cw := 5) (d := 4) (d2 := 4) (V := exV) (ExV.ext he1 hE4) ex_verdict (by decide +kernel) ex_alpha hA4 (by decide) hW4 (by decide) ex_wordErr (by decide) (by decide +kernel) ex_W ex_syms (by rw [ex_N]; exact ex_nums) (by rw [ex_N]; exact ex_okn) _ hM4)
  rw [ex_N, show toBs [2, 0, 2, 2, 1] = [2, 0, 2, 2, 1] from rfl, ex_is] at HH
  have H4 := Hid.mk (And.intro hb4 (And.intro hK4 hk1))
  obtain ⟨⟨p0, p1, p2⟩, _, _, _⟩ := hb1.three
  have b13 : (exE.op == 13) = true := rfl
  clear he1 hM1 hE1 hk1 hb1 hM4 hA4 hW4 hE4 hK4 hb4 HP
  go_wp2_with fail
  refine HH.out.mono ?_
  rintro en w5 ⟨rfl, hk5⟩
  have hb5 := H4.out.1.same hk5 (by simp)
  obtain ⟨⟨r0, r1, r2⟩, _, _, _⟩ := hb5.three
  have H5 := Hid.mk (((H4.out.2.2).trans H4.out.2.1).trans hk5)
  clear hk5 hb5 p0 p1 p2
  go_wp2_with fail
  go_ret
  exact ⟨rfl, H5.out⟩
end Go.Proofs.YtgdnhlckodhhgaaGreatDoor
