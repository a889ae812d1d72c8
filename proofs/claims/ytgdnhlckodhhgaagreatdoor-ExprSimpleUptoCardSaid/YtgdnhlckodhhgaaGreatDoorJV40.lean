/-
  The reference's asker: an expression's nodes are put in, each with the numbers of those in it (add).
-/
import Derived.Test.YtgdnhlckodhhgaaGreatDoorJVM
namespace Go.Proofs.YtgdnhlckodhhgaaGreatDoor
open Go.RowKit
set_option linter.unusedVariables false
set_option linter.unusedSimpArgs false
theorem Ka.mem {ga base : Nat} {vi vi' : Value} {w w' : World} {M : Heap} (k : Ka ga vi vi' w w') (hM : Mem w M) (hga : M ga = none) (hMb : ∀ b, base ≤ b → M b = none) (hvi : ∀ g, vi.ownBlock = some g → base ≤ g) : Mem w' M := fun b o hb =>
  (k.block b (hM.lt hb) (fun e => by rw [e, hga] at hb; cases hb) (fun e => by rw [hMb b (hvi b e)] at hb; cases hb)).trans (hM b o hb)
theorem Ka.box {ga b : Nat} {vi vi' : Value} {w w' : World} {M : Heap} {c : Array Value} {t : TypeId} (k : Ka ga vi vi' w w') (h : Box w M b c t) (h1 : b ≠ ga) (h2 : vi.ownBlock ≠ some b) : Box w' M b c t := ⟨(k.block b h.lt h1 h2).trans h.blk, h.out⟩
theorem grown_undrew {w w5 : World} {r : Option Nat} (k : w.drew.grownBy w5 r) : w.grownBy w5 r := ⟨k.os, k.tape, k.output, k.size, k.block⟩
theorem ownb_some {w : World} {base size n : Nat} {e : TypeId} {v : Value} {xs : List Value} (h : w.ownsRow base e size v n xs) (hn : 0 < n) : ∃ g cap, v = .slice (some ⟨g, 0, none⟩) n cap ∧ n ≤ cap := by
  obtain ⟨h1, h2⟩ := h
  rcases h2 with ⟨rfl, rfl⟩ | ⟨g, cap, cur, rfl, h0, h3, h4, r⟩
  · omega
  · exact ⟨g, cap, rfl, h4⟩
/-- What add leaves. -/
def AddEnd (M : Heap) (ga gm base : Nat) (e : E) (vi : Value) (X : List It) (w : World) (en : Ending) (w' : World) : Prop :=
  en = .returned (.int .i64 (X.length : Nat)) ∧ ∃ vi' new, new.length = e.size ∧ Box w' M ga #[vi', .map (some gm)] 76 ∧ Its w' base vi' (X ++ new) ∧ PT (X ++ new) X.length e ∧ Ka ga vi vi' w w'
/-- While the nodes below are put in. -/
def AddI (w : World) (M : Heap) (base ga gm : Nat) (e : E) (A : Option Addr) (c : Nat) (vi : Value) (X : List It) (j : Nat) (wr : World) : Prop :=
  ∃ vi1 vk new, Box wr M ga #[vi1, .map (some gm)] 76 ∧ Its wr base vi1 (X ++ ⟨e.op, e.s, vk, nums X.length e j⟩ :: new) ∧ new.length = sizes (e.l.take j) ∧
    (∀ j', j' < j → (h : j' < e.l.length) → PT (X ++ ⟨e.op, e.s, vk, nums X.length e j⟩ :: new) (X.length + 1 + sizes (e.l.take j')) e.l[j']) ∧
    (∀ g, vk.ownBlock = some g → w.heap.size + 1 ≤ g) ∧ Ka ga vi vi1 w wr ∧ Box wr M w.heap.size #[.int .i64 e.op, .string (bs e.s), .slice A e.l.length c] 24 ∧ Mem wr M ∧ vi1.ownBlock ≠ some w.heap.size
set_option maxRecDepth 100000 in
set_option maxHeartbeats 4000000 in
theorem add_calls {M : Heap} {ga gm base : Nat} (hMb : ∀ b, base ≤ b → M b = none) (hgb : ga < base) (n : Nat) : ∀ (e : E) (A : Option Addr) (c : Nat) (w : World) (vi : Value) (X : List It), ExV M e A c → Mem w M → Box w M ga #[vi, .map (some gm)] 76 → base ≤ w.heap.size → Its w base vi X → e.size ≤ n → X.length + e.size ≤ 100000 →
    Calls Tryz.prog 49 #[.pointer (some ⟨ga, 0, none⟩), .agg #[.int .i64 e.op, .string (bs e.s), .slice A e.l.length c]] w (AddEnd M ga gm base e vi X w) := by
  obtain ⟨i0, hi, hzz⟩ := Option.map_eq_some_iff.1 Tryz.infoIt
  simp only [Prod.mk.injEq] at hzz
  obtain ⟨hz0, hz1, hz2⟩ := hzz
  have HI := Hid.mk (And.intro hi (And.intro hz0 (And.intro hz1 hz2)))
  clear hi hz0 hz1 hz2
  obtain ⟨iN, hi, hzz⟩ := Option.map_eq_some_iff.1 Tryz.infoN
  simp only [Prod.mk.injEq] at hzz
  obtain ⟨hz0, hz1, hz2⟩ := hzz
  have HN := Hid.mk (And.intro hi (And.intro hz0 (And.intro hz1 hz2)))
  clear hi hz0 hz1 hz2
  have HMB := Hid.mk hMb
  clear hMb
  induction n with
  | zero => intro e A c w vi X _ _ _ _ _ he; have := size_pos e; omega
  | succ n ih =>
    intro e A c w vi X he hM hB hbase hIt hn hbig
    have hsz := E.size_eq e
    have hll := length_sizes e.l
    obtain ⟨Ai, ci, rfl, hci, hAi⟩ := ownb_shape hIt.own
    have hb0 := Box.new hM #[.int .i64 e.op, .string (bs e.s), .slice A e.l.length c] 24
    have hB1 := hB.alloc (.cells #[.int .i64 e.op, .string (bs e.s), .slice A e.l.length c] 24)
    have hM1 := hM.alloc (.cells #[.int .i64 e.op, .string (bs e.s), .slice A e.l.length c] 24)
    have hI1 := hIt.alloc (.cells #[.int .i64 e.op, .string (bs e.s), .slice A e.l.length c] 24)
    have hK1 := (Ka.refl ga (.slice Ai X.length ci) w).alloc (.cells #[.int .i64 e.op, .string (bs e.s), .slice A e.l.length c] 24)
    have hs1 : (w.alloc (.cells #[.int .i64 e.op, .string (bs e.s), .slice A e.l.length c] 24)).heap.size = w.heap.size + 1 := by simp
    have q0 : (w.alloc (.cells #[.int .i64 e.op, .string (bs e.s), .slice A e.l.length c] 24)).cell? ⟨ga, 0, none⟩ = some (.slice Ai X.length ci) := hB1.cell 0
    have f0 : (w.alloc (.cells #[.int .i64 e.op, .string (bs e.s), .slice A e.l.length c] 24)).frozen? ⟨ga, 0, none⟩ = false := hB1.free 0
    have p0 : (w.alloc (.cells #[.int .i64 e.op, .string (bs e.s), .slice A e.l.length c] 24)).cell? ⟨w.heap.size, 0, none⟩ = some (.int .i64 e.op) := hb0.cell 0
    have p1 : (w.alloc (.cells #[.int .i64 e.op, .string (bs e.s), .slice A e.l.length c] 24)).cell? ⟨w.heap.size, 1, none⟩ = some (.string (bs e.s)) := hb0.cell 1
    have hown : ∀ g, (Value.slice Ai X.length ci).ownBlock = some g → base ≤ g ∧ g < w.heap.size := fun g hg => ⟨ownb_base hIt.own hg, ownb_lt hIt.own hg⟩
    have hgaw := hB.lt
    have HE := Hid.mk he
    have HIH := Hid.mk ih
    have HM0 := Hid.mk hM
    have HW := Hid.mk (And.intro hown (And.intro hb0 (And.intro hB1 (And.intro hM1 (And.intro hI1 hK1)))))
    have HS1 := Hid.mk hs1
    have hqa : w.cell? ⟨ga, 0, none⟩ = some (.slice Ai X.length ci) := hB.cell 0
    clear he ih hown hb0 hB1 hM1 hI1 hK1 hM hB hIt hs1 hAi
    go_enter Tryz.func49, Tryz.ntmps49
    go_upto_region 2 with fail
    generalize hw1 : w.alloc (.cells #[.int .i64 e.op, .string (bs e.s), .slice A e.l.length c] 24) = w1 at *
    have hs1 := HS1.out
    have HGA : Hid (∀ w' : World, (∀ b, b < w1.heap.size → (Value.slice Ai X.length ci).ownBlock ≠ some b → w'.heap[b]? = w1.heap[b]?) → (w'.cell? ⟨ga, 0, none⟩ = some (.slice Ai X.length ci) ∧ w'.frozen? ⟨ga, 0, none⟩ = false)) := Hid.mk (fun w' h => by
      have ha : w'.heap[ga]? = w1.heap[ga]? := h ga (by omega) (fun e => by have := (HW.out.1 _ e).1; omega)
      exact ⟨(World.cell?_of_block ha).trans q0, (World.frozen?_of_block ha).trans f0⟩)
    have HKEEP : Hid (∀ w' : World, (∀ b, b < w1.heap.size → (Value.slice Ai X.length ci).ownBlock ≠ some b → w'.heap[b]? = w1.heap[b]?) → (w'.cell? ⟨w.heap.size, 0, none⟩ = some (.int .i64 e.op) ∧ w'.cell? ⟨w.heap.size, 1, none⟩ = some (.string (bs e.s)))) := Hid.mk (fun w' h => by
      have hb : w'.heap[w.heap.size]? = w1.heap[w.heap.size]? := h _ (by omega) (fun e => by have := (HW.out.1 _ e).2; omega)
      exact ⟨(World.cell?_of_block hb).trans p0, (World.cell?_of_block hb).trans p1⟩)
    have HOWN : Hid (∀ o, ((w1.alloc o).drew).ownsRow base 130 3 (.slice Ai X.length ci) X.length (itCells X)) := Hid.mk (fun o => ownb_alloc HW.out.2.2.2.2.1.own o)
    have HBG : Hid ((X.length + 1 ≤ maxLen) ∧ (X.length + 1) * 48 ≤ 140737488355328) := Hid.mk (by unfold maxLen; omega)
    have hne1 : w1.heap.size ≠ ga := by omega
    have hgw1 : ga ≠ w.heap.size := by omega
    clear hs1 hw1 hqa
    have HREL : Hid (∀ (g1 cap1 : Nat) (w5 : World), w5.ownsRow base 130 3 (.slice (some ⟨g1, 0, none⟩) (X.length + 1) cap1) (X.length + 1) (itCells X ++ [.int .i64 e.op, .string (bs e.s), .slice none 0 0]) →
        ((w1.alloc (.cells #[.int .i64 e.op, .string (bs e.s), .slice none 0 0] 130)).drew).grownBy w5 (Value.slice Ai X.length ci).ownBlock → ((Value.slice Ai X.length ci).ownBlock = some g1 ∨ g1 = w1.heap.size + 1) →
        AddI w M base ga gm e A c (.slice Ai X.length ci) X 0 (w5.setCell ⟨ga, 0, none⟩ (.slice (some ⟨g1, 0, none⟩) (X.length + 1) cap1))) := Hid.mk (fun g1 cap1 w5 ho hg hat => by
      obtain ⟨hown, hb0, hB1, hM1, hI1, hK1⟩ := HW.out
      have hs := HS1.out
      have hk5 := (hK1.alloc (.cells #[.int .i64 e.op, .string (bs e.s), .slice none 0 0] 130)).drew.items (n := X.length + 1) (cap := cap1) hg (by rcases hat with h | h; exact .inl h; exact .inr (by omega))
      have hk6 := hk5.store (p := ⟨ga, 0, none⟩) (.inl rfl) (.slice (some ⟨g1, 0, none⟩) (X.length + 1) cap1)
      have hfar : ∀ b, b < w1.heap.size → (Value.slice Ai X.length ci).ownBlock ≠ some b → w5.heap[b]? = w1.heap[b]? := fun b hb hne => (hg.block b (by simp; omega) (fun e => hne e.symm)).trans (alloc_far hb _)
      have hB5 : Box w5 M ga #[.slice Ai X.length ci, .map (some gm)] 76 := ⟨(hfar ga (by omega) (fun e => by have := (hown _ e).1; omega)).trans hB1.blk, hB1.out⟩
      have hb5 : Box w5 M w.heap.size #[.int .i64 e.op, .string (bs e.s), .slice A e.l.length c] 24 := ⟨(hfar _ (by omega) (fun e => by have := (hown _ e).2; omega)).trans hb0.blk, hb0.out⟩
      refine ⟨_, .slice none 0 0, [], hB5.set 0 _, (hI1.push ho (grown_undrew hg) hat).far (p := ⟨ga, 0, none⟩) hgb _, rfl, (fun j' h => absurd h (Nat.not_lt_zero _)), (fun g h => by cases h), hk6, hb5.far (p := ⟨ga, 0, none⟩) (Ne.symm hgw1) _, ?_⟩
      refine ⟨hk6.mem HM0.out hB1.out HMB.out (fun g h => (hown g h).1), fun h => ?_⟩
      simp only [Value.ownBlock, Option.some.injEq] at h
      rcases hat with hat | hat
      · have := (hown _ hat).2; omega
      · omega)
    have qA : (w1.alloc (.cells #[.int .i64 e.op, .string (bs e.s), .slice none 0 0] 130)).drew.cell? ⟨ga, 0, none⟩ = some (.slice Ai X.length ci) := (HGA.out _ (fun b hb hne => alloc_far hb _)).1
    go_cut [24] from 13 to 26 (fun v24 wy => Hid (AddI w M base ga gm e A c (.slice Ai X.length ci) X 0 wy))
    case first =>
      go_region_law (first | (refine step_append_lies _ (by rfl) (.tmp 17) (.tmp 23) 74 (by rfl) base 130 i0 _ 3 48 Tryz.underlying74 HI.out.1 HI.out.2.1 HI.out.2.2.1 HI.out.2.2.2 rfl (by omega) (.slice Ai X.length ci) X.length (itCells X) (by rfl) (HOWN.out _) ⟨w1.heap.size, 0, none⟩ 1 1 [.int .i64 e.op, .string (bs e.s), .slice none 0 0] (by rfl) (by rfl) (World.news_of_block (cs := #[.int .i64 e.op, .string (bs e.s), .slice none 0 0]) (t := 130) (fr := (0, 0)) (heap_alloc_new w1 _)) (by simp [Value.oneCell']) (by omega) HBG.out.1 HBG.out.2 (by have := HS1.out; simp; omega) (w1.heap.size + 1) (by simp) ?_; intro g1 cap1 w5 hown5 hgr5 hat5 hlt5; have hy5 := HGA.out w5 (fun b hb hne => (hgr5.block b (by simp; omega) (fun e => hne e.symm)).trans (alloc_far hb _))))
      all_goals
        go_wp2_with fail
        go_meet
        case rel => exact Hid.mk (HREL.out _ _ _ hown5 hgr5 hat5)
    case rest =>
      have HA0 := hcut
      clear qA q0 f0 p0 p1
      go_wp2_with fail
      go_loopg [6] e.l.length (fun kk v wr => ∃ j : Nat, j ≤ e.l.length ∧ kk = e.l.length - j ∧ v = .int .i64 (j : Nat) ∧ Hid (AddI w M base ga gm e A c (.slice Ai X.length ci) X j wr))
      case atStart => exact ⟨0, Nat.zero_le _, by simp, rfl, HA0⟩
      case round =>
        clear HA0 hcut
        obtain ⟨j, hj, hkk, rfl, HA⟩ := hrel
        obtain ⟨vi1, vk, new, hBa, hIts, hnl, hpt, hvk, hKa, hBe, hM, hvb⟩ := HA.out
        have p2 : wr.cell? ⟨w.heap.size, 2, none⟩ = some (.slice A e.l.length c) := hBe.cell 2
        by_cases hlt : j < e.l.length
        · obtain ⟨bb, o, rfl⟩ := HE.out.place (by omega)
          obtain ⟨A', c', k0, k1, k2, hx⟩ := HE.out.at_ j hlt
          have q0 := hM.cell k0
          have q1 := hM.cell k1
          have q2 := hM.cell k2
          have hst := sizes_take e.l j hlt
          have hsl := sizes_le e.l (j + 1)
          have hks := hKa.size
          obtain ⟨X1, hX1⟩ : ∃ X1, X1 = X ++ ⟨e.op, e.s, vk, nums X.length e j⟩ :: new := ⟨_, rfl⟩
          have hl1 : X1.length = X.length + 1 + sizes (e.l.take j) := by rw [hX1]; simp [hnl]; omega
          rw [← hX1] at hIts hpt
          have HC := Hid.mk (HIH.out e.l[j] A' c' wr vi1 X1 hx hM hBa (by omega) hIts (by omega) (by omega))
          have HL1 := Hid.mk hl1
          have HX1 := Hid.mk hX1
          have HR := Hid.mk (And.intro hpt (And.intro hvk (And.intro hKa (And.intro hBe (And.intro hM (And.intro hnl (And.intro hIts hvb)))))))
          have HST := Hid.mk hst
          clear hBa hIts hnl hpt hvk hKa hBe hM hl1 hX1 k0 k1 k2 hx hst hvb
          go_wp2_with fail
          refine HC.out.mono ?_
          intro en w3 hadd
          obtain ⟨rfl, vi2, new2, hl2, hB2, hI2, hP2, hK2⟩ := hadd
          obtain ⟨hpt, hvk, hKa, hBe, hM, hnl, hIts, hvb⟩ := HR.out
          have hl1 := HL1.out
          have hst := HST.out
          have hM3 := hK2.mem hM hB2.out HMB.out (fun g hg => ownb_base hIts.own hg)
          have hK3 := hKa.trans hK2
          have hlw := hBe.lt
          have hbe3 := hK2.box hBe (by omega) hvb
          obtain ⟨gi, ci2, rfl, hci2⟩ := ownb_some hI2.own (by simp; omega)
          obtain ⟨X2, hX2⟩ : ∃ X2, X2 = X1 ++ new2 := ⟨_, rfl⟩
          have hl3 : X2.length = X1.length + e.l[j].size := by rw [hX2]; simp [hl2]
          rw [← hX2] at hI2 hP2 hB2 hK2 hK3 hci2
          have hat0 : X2[X.length]? = some ⟨e.op, e.s, vk, nums X.length e j⟩ := by rw [hX2, HX1.out, List.append_assoc, List.getElem?_append_right (Nat.le_refl _)]; simp
          have hrowk : w3.ownsRow base 3 1 vk (nums X.length e j).length (nats (nums X.length e j)) := hI2.rows X.length _ hat0
          rw [nums_len] at hrowk
          obtain ⟨Ak, ck, rfl, hck, _⟩ := ownb_shape hrowk
          have c1 : w3.cell? ⟨gi, X.length * 3 + 2, none⟩ = some (.slice Ak j ck) := ownb_cell hI2.own (itCells_at X2 X.length _ hat0).2.2
          have f1 := ownb_free hI2.own (X.length * 3 + 2)
          have qa : w3.cell? ⟨ga, 0, none⟩ = some (.slice (some ⟨gi, 0, none⟩) X2.length ci2) := hB2.cell 0
          have hgib : base ≤ gi := ownb_base hI2.own rfl
          have hgil : gi < w3.heap.size := ownb_lt hI2.own rfl
          have hgal := hB2.lt
          have hks3 := hK3.size
          have hgiw : gi ≠ w.heap.size := by
            intro h
            rcases hK2.nw gi rfl with h1 | h1
            · rw [h] at h1; exact hvb h1
            · omega
          have hvkb : ∀ g, (Value.slice Ak j ck).ownBlock = some g → base ≤ g ∧ g ≠ gi ∧ w.heap.size + 1 ≤ g := fun g hg => ⟨ownb_base hrowk hg, fun h => hI2.ap X.length _ hat0 g hg (by rw [h]; rfl), hvk g hg⟩
          have HG7 : Hid (∀ w' : World, (∀ b, b < w3.heap.size → (Value.slice Ak j ck).ownBlock ≠ some b → w'.heap[b]? = w3.heap[b]?) → (w'.cell? ⟨ga, 0, none⟩ = some (.slice (some ⟨gi, 0, none⟩) X2.length ci2) ∧ w'.cell? ⟨gi, X.length * 3 + 2, none⟩ = some (.slice Ak j ck) ∧ w'.frozen? ⟨gi, X.length * 3 + 2, none⟩ = false)) := Hid.mk (fun w' h => by
            have ha : w'.heap[ga]? = w3.heap[ga]? := h ga hgal (fun e => by have := (hvkb _ e).1; omega)
            have hb : w'.heap[gi]? = w3.heap[gi]? := h gi hgil (fun e => (hvkb _ e).2.1 rfl)
            exact ⟨(World.cell?_of_block ha).trans qa, (World.cell?_of_block hb).trans c1, (World.frozen?_of_block hb).trans f1⟩)
          have HOWK : Hid (∀ o, ((w3.alloc o).drew).ownsRow base 3 1 (.slice Ak j ck) j (nats (nums X.length e j))) := Hid.mk (fun o => ownb_alloc hrowk o)
          have HBK : Hid ((j + 1 ≤ maxLen) ∧ (j + 1) * 8 ≤ 140737488355328 ∧ base ≤ w3.heap.size + 1) := Hid.mk (by unfold maxLen; omega)
          have hxi : (X.length : Int) < (X2.length : Int) := by omega
          have hx0 : (0 : Int) ≤ (X.length : Int) := by omega
          have qB : (w3.alloc (.cells #[.int .i64 (X1.length : Nat)] 3)).drew.cell? ⟨ga, 0, none⟩ = some (.slice (some ⟨gi, 0, none⟩) X2.length ci2) := (HG7.out _ (fun b hb hne => alloc_far hb _)).1
          have qC : (w3.alloc (.cells #[.int .i64 (X1.length : Nat)] 3)).drew.cell? ⟨gi, X.length * 3 + 2, none⟩ = some (.slice Ak j ck) := (HG7.out _ (fun b hb hne => alloc_far hb _)).2.1
          have HREL2 : Hid (∀ (g5 cap5 : Nat) (w5 : World), w5.ownsRow base 3 1 (.slice (some ⟨g5, 0, none⟩) (j + 1) cap5) (j + 1) (nats (nums X.length e j) ++ [.int .i64 (X1.length : Nat)]) →
              ((w3.alloc (.cells #[.int .i64 (X1.length : Nat)] 3)).drew).grownBy w5 (Value.slice Ak j ck).ownBlock → ((Value.slice Ak j ck).ownBlock = some g5 ∨ g5 = w3.heap.size + 1) →
              AddI w M base ga gm e (some ⟨bb, o, none⟩) c (.slice Ai X.length ci) X (j + 1) (w5.setCell ⟨gi, X.length * 3 + 2, none⟩ (.slice (some ⟨g5, 0, none⟩) (j + 1) cap5))) := Hid.mk (fun g5 cap5 w5 ho hg hat => by
            have hfar : ∀ b, b < w3.heap.size → (Value.slice Ak j ck).ownBlock ≠ some b → w5.heap[b]? = w3.heap[b]? := fun b hb hne => (hg.block b (by simp; omega) (fun e => hne e.symm)).trans (alloc_far hb _)
            have hit := hI2.put (t := ⟨e.op, e.s, .slice Ak j ck, nums X.length e j⟩) (m := X1.length) (g := g5) (cap := cap5) hat0 (by simp only [nums_len]; exact ho) (grown_undrew hg) hat
            simp only [nums_len] at hit
            have e1 : nums X.length e j ++ [X1.length] = nums X.length e (j + 1) := by rw [nums_succ, hl1]
            have e2 : X2.set X.length ⟨e.op, e.s, .slice (some ⟨g5, 0, none⟩) (j + 1) cap5, nums X.length e (j + 1)⟩ = X ++ ⟨e.op, e.s, .slice (some ⟨g5, 0, none⟩) (j + 1) cap5, nums X.length e (j + 1)⟩ :: (new ++ new2) := by
              rw [hX2, HX1.out, List.append_assoc, List.set_append_right _ _ (Nat.le_refl _)]; simp
            rw [e1] at hit
            have hk9 := ((hK3.alloc (.cells #[.int .i64 (X1.length : Nat)] 3)).drew.row hg (fun x hx => by have := (hvkb x hx).2.2; omega)).store (p := ⟨gi, X.length * 3 + 2, none⟩) (.inr (.inl rfl)) (.slice (some ⟨g5, 0, none⟩) (j + 1) cap5)
            have hB5 : Box w5 M ga #[.slice (some ⟨gi, 0, none⟩) X2.length ci2, .map (some gm)] 76 := ⟨(hfar ga hgal (fun e => by have := (hvkb _ e).1; omega)).trans hB2.blk, hB2.out⟩
            have hb5 : Box w5 M w.heap.size #[.int .i64 e.op, .string (bs e.s), .slice (some ⟨bb, o, none⟩) e.l.length c] 24 := ⟨(hfar _ hbe3.lt (fun e => by have := (hvkb _ e).2.2; omega)).trans hbe3.blk, hbe3.out⟩
            rw [e2] at hit
            refine ⟨.slice (some ⟨gi, 0, none⟩) X2.length ci2, .slice (some ⟨g5, 0, none⟩) (j + 1) cap5, new ++ new2, hB5.far (p := ⟨gi, X.length * 3 + 2, none⟩) (by simp; omega) _, hit, ?_, ?_, ?_, hk9, hb5.far (p := ⟨gi, X.length * 3 + 2, none⟩) (by simp; omega) _, hk9.mem HM0.out hB2.out HMB.out (fun g h => (HW.out.1 g h).1), ?_⟩
            · rw [List.length_append, hnl, hl2, hst]
            · intro j' hj' h'
              rw [← e2]
              by_cases hjj : j' = j
              · subst hjj
                rw [← hl1]
                exact hP2.turn (fun i hi1 hi2 => List.getElem?_set_ne (by omega))
              · have hsz2 := sizes_lt (l := e.l) (i := j') (j := j) (by omega) hlt
                refine (hpt j' (by omega) h').turn (fun i hi1 hi2 => ?_)
                rw [List.getElem?_set_ne (by omega), hX2, List.getElem?_append_left (by omega)]
            · intro g h
              simp only [Value.ownBlock, Option.some.injEq] at h
              subst h
              rcases hat with h | h
              · exact (hvkb _ h).2.2
              · omega
            · intro h
              simp only [Value.ownBlock, Option.some.injEq] at h
              exact hgiw h)
          have hgag : ga ≠ gi := by omega
          clear hpt hvk hKa hBe hM hnl hIts hvb hl1 hst hM3 hK3 hlw hbe3 hI2 hP2 hB2 hK2 hX2 hl3 hat0 hrowk hvkb hl2 q0 q1 q2 p2 HC hks
          go_wp2_with fail
          go_region_law (first | (refine step_append_lies _ (by rfl) (.tmp 53) (.tmp 55) 60 (by rfl) base 3 iN _ 1 8 Tryz.underlying60 HN.out.1 HN.out.2.1 HN.out.2.2.1 HN.out.2.2.2 rfl (by omega) (.slice Ak j ck) j (nats (nums X.length e j)) (by rfl) (HOWK.out _) ⟨w3.heap.size, 0, none⟩ 1 1 [.int .i64 (X1.length : Nat)] (by rfl) (by rfl) (World.news_of_block (cs := #[.int .i64 (X1.length : Nat)]) (t := 3) (fr := (0, 0)) (heap_alloc_new w3 _)) (by simp [Value.oneCell']) (by omega) HBK.out.1 HBK.out.2.1 (by have := HBK.out.2.2; simp; omega) (w3.heap.size + 1) (by simp) ?_; intro g5 cap5 w5 hown5 hgr5 hat5 hlt5; have hy5 := HG7.out w5 (fun b hb hne => (hgr5.block b (by simp; omega) (fun e => hne e.symm)).trans (alloc_far hb _))))
          all_goals
            clear hy5
            go_wp2_with fail
            go_roundg (e.l.length - (j + 1))
            case measure => omega
            case rel => exact ⟨j + 1, by omega, rfl, by go_num, Hid.mk (HREL2.out _ _ _ hown5 hgr5 hat5)⟩
        · obtain rfl : j = e.l.length := by omega
          have hnlt : ¬ ((e.l.length : Int) < (e.l.length : Int)) := by omega
          have HZ := Hid.mk (And.intro hBa (And.intro hIts (And.intro hnl (And.intro hpt hKa))))
          clear hBa hIts hnl hpt hKa hvk hBe hM hvb
          go_wp2_with fail
          go_ret
          obtain ⟨hBa, hIts, hnl, hpt, hKa⟩ := HZ.out
          refine ⟨rfl, vi1, ⟨e.op, e.s, vk, nums X.length e e.l.length⟩ :: new, ?_, hBa, hIts, ?_, hKa⟩
          · rw [List.take_length] at hnl
            simp only [List.length_cons]; omega
          · exact .mk _ _ ⟨e.op, e.s, vk, nums X.length e e.l.length⟩ (by rw [List.getElem?_append_right (Nat.le_refl _)]; simp) rfl rfl rfl (fun j' h => hpt j' h h)
end Go.Proofs.YtgdnhlckodhhgaaGreatDoor
