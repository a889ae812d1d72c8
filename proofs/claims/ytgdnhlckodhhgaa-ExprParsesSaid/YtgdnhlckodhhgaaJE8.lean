/-
  The reference's reader: all levels together; Parse, for all texts.
-/
import Derived.Test.YtgdnhlckodhhgaaJG
import Derived.Test.YtgdnhlckodhhgaaJE3
import Derived.Test.YtgdnhlckodhhgaaJE4
import Derived.Test.YtgdnhlckodhhgaaJE6
import Derived.Test.YtgdnhlckodhhgaaJE7
import Derived.Test.YtgdnhlckodhhgaaJE
namespace Go.Proofs.Ytgdnhlckodhhgaa
open Go.RowKit
set_option linter.unusedVariables false
set_option linter.unusedSimpArgs false
theorem RS0 (f : FuncId) (xs : List Value) (n : Nat) : RSpec f xs n 0 := by
  intro g l r w M x p nx kd sy _ _ _ _ h
  simp [G] at h
theorem AS0 (f : FuncId) : ASpec f 0 := by
  intro g l r w M x p nx kd sy _ _ _ _ _ _ h
  simp [G] at h
theorem rlevels (k : Nat) : RSpec 23 [] 0 k ∧ RSpec 49 [.int .i64 45] 1 k ∧ RSpec 49 [.int .i64 124] 2 k ∧ RSpec 49 [.int .i64 38] 3 k ∧ RSpec 49 [.int .i64 37] 4 k ∧ RSpec 49 [.int .i64 47] 5 k ∧ RSpec 49 [.int .i64 0] 6 k ∧ RSpec 72 [] 6 k ∧ RSpec 96 [] 7 k ∧ ASpec 106 k := by
  induction k using Nat.strongRecOn with
  | _ k ih =>
    cases k with
    | zero => exact ⟨RS0 _ _ _, RS0 _ _ _, RS0 _ _ _, RS0 _ _ _, RS0 _ _ _, RS0 _ _ _, RS0 _ _ _, RS0 _ _ _, RS0 _ _ _, AS0 _⟩
    | succ k =>
      have h := fun k' (hk : k' ≤ k) => ih k' (by omega)
      have hat : ASpec 106 (k + 1) := ratom_spec (fun k' hk => (h k' hk).1)
      have hat' : ∀ k', k' ≤ k + 1 → ASpec 106 k' := fun k' hk => by
        rcases Nat.lt_or_ge k' (k + 1) with h1 | h1
        · exact (ih k' h1).2.2.2.2.2.2.2.2.2
        · obtain rfl : k' = k + 1 := by omega
          exact hat
      have hch : RSpec 72 [] 6 (k + 1) := rchain_spec (fun k' hk => (h k' hk).2.2.2.2.2.2.2.2.1)
      exact ⟨rwhole_spec (fun k' hk => (h k' hk).2.1), rlevel1 (fun k' hk => (h k' hk).2.2.1), rlevel2 (fun k' hk => (h k' hk).2.2.2.1), rlevel3 (fun k' hk => (h k' hk).2.2.2.2.1), rlevel4 (fun k' hk => (h k' hk).2.2.2.2.2.1), rlevel5 (fun k' hk => (h k' hk).2.2.2.2.2.2.1), rlevel6 hch, hch, rthing_spec (fun k' hk => (h k' hk).2.2.2.2.2.2.2.2.1) hat', hat⟩
theorem outc_bad {M : Heap} {s : Bs} {x : Ex (E × Bs)} {o : Int} {sb : ByteArray} {A : Option Addr} {n c : Nat} {p nx kd : Int} {sy : ByteArray} {bd : Bool} (h : RGh M s x o sb A n c p nx kd sy bd) (hk : bd = true ∨ kd ≠ 0) : outc s x = (zeroE, p, 2) := by
  cases x with
  | error q => rw [h.1]; rfl
  | ok y =>
    obtain ⟨a, r⟩ := y
    obtain ⟨_, _, _, _, hT, hb⟩ := h
    have hk := hk.elim (fun h => by rw [hb] at h; cases h) id
    cases ht : tk (sk r) with
    | none => simp only [outc, ht]; rw [hT.2.1]
    | some u =>
      have hu : u ≠ [] := fun e => hk (by rw [tok_some hT ht, (kind_end ht).1 e])
      simp only [outc, ht, hu, if_false]; rw [hT.2.1]
theorem outc_good {M : Heap} {s : Bs} {x : Ex (E × Bs)} {o : Int} {sb : ByteArray} {A : Option Addr} {n c : Nat} {p nx kd : Int} {sy : ByteArray} (h : RGh M s x o sb A n c p nx kd sy false) (hk : kd = 0) :
    ∃ a r, x = .ok (a, r) ∧ o = a.op ∧ sb = bs a.s ∧ n = a.l.length ∧ ExV M a A c ∧ outc s x = if verdict a = 0 then (a, 0, 0) else (zeroE, 0, verdict a) := by
  cases x with
  | error q =>
    rcases h.2 with h | h
    · cases h
    · rw [hk] at h; exact absurd h (by omega)
  | ok y =>
    obtain ⟨a, r⟩ := y
    obtain ⟨h1, h2, h3, h4, hT, _⟩ := h
    refine ⟨a, r, rfl, h1, h2, h3, h4, ?_⟩
    cases ht : tk (sk r) with
    | none => have := hk.symm.trans (tok_none hT ht); omega
    | some u =>
      have hu : u = [] := (kind_end ht).2 (by rw [← tok_some hT ht, hk])
      simp only [outc, ht, hu, if_true]
set_option maxRecDepth 100000 in
set_option maxHeartbeats 4000000 in
theorem rParse_large {s : Bs} {w : World} {M : Heap} (hM : Mem w M) (hl : 6000 < s.length) (hs : s.length ≤ 1099511627776) :
    Calls Try.prog 9 #[.string (bs s)] w (PEnd w M (zeroE, 0, 3)) := by
  have hz := bs_size s
  go_enter Try.func9, Try.ntmps9
  go_wp2_with fail
  obtain ⟨⟨r0, r1, r2⟩, _, _, _⟩ := (Box.new hM #[.int .i64 0, .string ⟨#[]⟩, .slice none 0 0] 25).three
  refine bodyPost_ret (v := .tuple #[.agg #[.int .i64 0, .string ⟨#[]⟩, .slice none 0 0], .int .i64 0, .int .i64 3]) (by simp [results, Try.results9, go_sem, r0, r1, r2]) rfl ?_
  exact ⟨none, 0, M, rfl, exv_zero M, hM.alloc _, Ext.refl _ _, (Kp.refl _ _).alloc _⟩
set_option maxRecDepth 100000 in
set_option maxHeartbeats 4000000 in
theorem rParse_small {k : Nat} {s : Bs} {x : Ex (E × Bs)} {w : World} {M : Heap} (hM : Mem w M) (hl : s.length ≤ 6000) (hx : G k (.lv 0 s) = some x) :
    Calls Try.prog 9 #[.string (bs s)] w (PEnd w M (outc s x)) := by
  have hz := bs_size s
  have HX := Hid.mk hx
  obtain ⟨hb0, hb1⟩ := two_boxes hM #[.int .i64 0, .string ⟨#[]⟩, .slice none 0 0] #[.string (bs s), .int .i64 0, .int .i64 0, .int .i64 0, .string ⟨#[]⟩, .bool false] 25 49
  have hB : PB ((w.alloc (.cells #[.int .i64 0, .string ⟨#[]⟩, .slice none 0 0] 25)).alloc (.cells #[.string (bs s), .int .i64 0, .int .i64 0, .int .i64 0, .string ⟨#[]⟩, .bool false] 49)) M (w.heap.size + 1) s 0 (at_ s s : Nat) 0 ⟨#[]⟩ false := by
    rw [show ((at_ s s : Nat) : Int) = 0 by simp [at_]]
    exact hb1
  have HB := Hid.mk (And.intro hb0 (And.intro hB ((hM.alloc (.cells #[.int .i64 0, .string ⟨#[]⟩, .slice none 0 0] 25)).alloc (.cells #[.string (bs s), .int .i64 0, .int .i64 0, .int .i64 0, .string ⟨#[]⟩, .bool false] 49))))
  clear hb0 hb1 hB hx
  go_enter Try.func9, Try.ntmps9
  go_wp2_with fail
  refine (advance_calls (List.suffix_refl s) hl HB.out.2.1).mono ?_
  rintro e w1 ⟨rfl, he⟩
  obtain ⟨p1, nx1, kd1, sy1, hk1, hB1, hT1⟩ := adv_tok (List.suffix_refl s) he
  have HT1 := Hid.mk hT1
  have hb01 := HB.out.1.same hk1 (by simp)
  have hM1 := HB.out.2.2.kp hk1 (by simpa using hB1.out)
  have hK1 : Kp [] w w1 := (((Kp.refl [] w).alloc (.cells #[.int .i64 0, .string ⟨#[]⟩, .slice none 0 0] 25)).alloc (.cells #[.string (bs s), .int .i64 0, .int .i64 0, .int .i64 0, .string ⟨#[]⟩, .bool false] 49)).inner hk1 (by simp)
  clear he hT1 hk1
  go_wp2_with fail
  refine ((rlevels k).1 (w.heap.size + 1) s s w1 M x p1 nx1 kd1 sy1 HT1.out hB1 hM1 hl HX.out).mono ?_
  rintro e w2 ⟨o2, s2, A2, n2, c2, p2, nx2, kd2, sy2, bd2, M2, rfl, hk2, hB2, hM2, he2, hG2⟩
  have hb02 := hb01.kp hk2 (by simp) he2 hb01.lt
  have hb3 := Box.new hM2 #[.int .i64 o2, .string s2, .slice A2 n2 c2] 25
  have hb03 := hb02.alloc (.cells #[.int .i64 o2, .string s2, .slice A2 n2 c2] 25)
  have hB3 := Box.alloc hB2 (.cells #[.int .i64 o2, .string s2, .slice A2 n2 c2] 25)
  have hM3 := hM2.alloc (.cells #[.int .i64 o2, .string s2, .slice A2 n2 c2] 25)
  have hsz1 : w.heap.size + 1 < w1.heap.size := Box.lt hB1
  have hsz2 : w.heap.size + 1 < w2.heap.size := Box.lt hB2
  have hK3 := ((hK1.inner hk2 (by simp)).alloc (.cells #[.int .i64 o2, .string s2, .slice A2 n2 c2] 25))
  have hE3 := he2.low (show w.heap.size ≤ _ by omega)
  clear hB1 hM1 hb01 hB2 hM2 hk2 hb02 he2 hK1
  go_upto_region 6 with fail
  generalize hb2e : w2.heap.size = be at *
  generalize w2.alloc (.cells #[.int .i64 o2, .string s2, .slice A2 n2 c2] 25) = w3 at *
  clear hb2e
  obtain ⟨⟨c0, c1, c2', c3, c4, c5⟩, f1, f2, f3, f4, f5⟩ := PB.cells hB3
  clear c0 c2' c4 f1 f2 f3 f4 f5
  obtain ⟨⟨q0, q1, q2⟩, _, _, _⟩ := hb3.three
  obtain ⟨⟨p0, p1', p2'⟩, f0', f1', f2'⟩ := hb03.three
  have hz3 := hb3.lt
  have hz0 := hb03.lt
  have HA := Hid.mk (And.intro hb3 (And.intro hb03 (And.intro hB3 (And.intro hM3 (And.intro hK3 (And.intro hE3 hG2))))))
  clear hb3 hb03 hB3 hM3 hK3 hE3 hG2
  by_cases hbad : bd2 = true ∨ kd2 ≠ 0
  · have HO := Hid.mk (outc_bad HA.out.2.2.2.2.2.2 hbad)
    have hbad' : bd2 = true ∨ bd2 = false ∧ (kd2 != 0) = true := by
      cases bd2
      · exact .inr ⟨rfl, by simpa using hbad⟩
      · exact .inl rfl
    clear hbad
    rcases hbad' with rfl | ⟨rfl, bk⟩
    all_goals
      go_wp2_with fail
      go_region
      go_wp2_with fail
      obtain ⟨hb3, hb0, hB3, hM, hK, hE, hG2⟩ := HA.out
      have hset : Kp [w.heap.size] w3 (((w3.setCell ⟨w.heap.size, 0, none⟩ (.int .i64 0)).setCell ⟨w.heap.size, 1, none⟩ (.string ⟨#[]⟩)).setCell ⟨w.heap.size, 2, none⟩ (.slice none 0 0)) := Kp.set3 (Kp.refl _ w3) (.inl (by simp))
      have hb9 := hb0.set3 (x' := .int .i64 0) (y' := .string ⟨#[]⟩) (z' := .slice none 0 0)
      obtain ⟨⟨r0, r1, r2⟩, _, _, _⟩ := (Box.drew hb9).three
      refine bodyPost_ret (v := .tuple #[.agg #[.int .i64 0, .string ⟨#[]⟩, .slice none 0 0], .int .i64 p2, .int .i64 2]) (by simp [results, Try.results9, go_sem, r0, r1, r2]) rfl ?_
      rw [HO.out]
      exact ⟨none, 0, M2, rfl, exv_zero M2, (hM.kp hset (by simpa using hb0.out)).drew, hE, (hK.inner hset (by simp)).drew⟩
  · obtain rfl : bd2 = false := by cases bd2; rfl; exact absurd (.inl rfl) hbad
    have hk0 : kd2 = 0 := Classical.byContradiction fun e => hbad (.inr e)
    have bk : (kd2 != 0) = false := by rw [hk0]; rfl
    obtain ⟨a, r', e0, e1, e2, e3, e4, e5⟩ := outc_good HA.out.2.2.2.2.2.2 hk0
    obtain ⟨hsm1, hsm2⟩ := read_small (show G k (.lv 0 s) = some (.ok (a, r')) from e0 ▸ HX.out)
    subst e1 e2 e3
    have HV := Hid.mk e4
    have HO := Hid.mk e5
    clear e0 e4 e5 hbad hk0
    go_wp2_with fail
    refine (rValidate_calls a A2 c2 _ M2 HV.out HA.out.2.2.2.1 (by omega) (by omega)).mono ?_
    rintro e w4 ⟨rfl, hk4⟩
    obtain ⟨hb3, hb03, hB3, hM3, hK3, hE3, hG2⟩ := HA.out
    have hb4 := hb3.same hk4 (by simp)
    have hb04 := hb03.same hk4 (by simp)
    have hM4 := hM3.kp hk4 (by simp)
    have hK4 := hK3.trans hk4
    clear q0 q1 q2 p0 p1' p2' f0' f1' f2' c1 c3 c5
    obtain ⟨⟨q0, q1, q2⟩, _, _, _⟩ := hb4.three
    obtain ⟨⟨p0, p1', p2'⟩, f0', f1', f2'⟩ := hb04.three
    have HB4 := Hid.mk (And.intro hb04 (And.intro hM4 (And.intro hK4 hE3)))
    clear hb3 hb03 hB3 hM3 hK3 hE3 hG2 hb4 hb04 hM4 hK4 hk4 HA
    generalize hve : verdict a = v at *
    have HVE := Hid.mk hve
    clear hve
    by_cases hv : v = 0
    · have bv : (v != 0) = false := by rw [hv]; rfl
      have HP := Hid.mk (HO.out.trans (if_pos hv))
      clear hv
      go_wp2_with fail
      obtain ⟨hb04, hM4, hK4, hE3⟩ := HB4.out
      have hset : Kp [w.heap.size] w4 (((w4.setCell ⟨w.heap.size, 0, none⟩ (.int .i64 a.op)).setCell ⟨w.heap.size, 1, none⟩ (.string (bs a.s))).setCell ⟨w.heap.size, 2, none⟩ (.slice A2 a.l.length c2)) := Kp.set3 (Kp.refl _ w4) (.inl (by simp))
      obtain ⟨⟨r0, r1, r2⟩, _, _, _⟩ := (hb04.set3 (x' := .int .i64 a.op) (y' := .string (bs a.s)) (z' := .slice A2 a.l.length c2)).three
      refine bodyPost_ret (v := .tuple #[.agg #[.int .i64 a.op, .string (bs a.s), .slice A2 a.l.length c2], .int .i64 0, .int .i64 0]) (by simp [results, Try.results9, go_sem, r0, r1, r2]) rfl ?_
      rw [HP.out]
      exact ⟨A2, c2, M2, rfl, HV.out, hM4.kp hset (by simpa using hb04.out), hE3, hK4.inner hset (by simp)⟩
    · have bv : (v != 0) = true := by simpa using hv
      have HP := Hid.mk (HO.out.trans (if_neg hv))
      clear hv
      go_wp2_with fail
      obtain ⟨hb0, hM, hK, hE⟩ := HB4.out
      have hset : Kp [w.heap.size] w4 (((w4.setCell ⟨w.heap.size, 0, none⟩ (.int .i64 0)).setCell ⟨w.heap.size, 1, none⟩ (.string ⟨#[]⟩)).setCell ⟨w.heap.size, 2, none⟩ (.slice none 0 0)) := Kp.set3 (Kp.refl _ w4) (.inl (by simp))
      have hb9 := hb0.set3 (x' := .int .i64 0) (y' := .string ⟨#[]⟩) (z' := .slice none 0 0)
      obtain ⟨⟨r0, r1, r2⟩, _, _, _⟩ := hb9.three
      refine bodyPost_ret (v := .tuple #[.agg #[.int .i64 0, .string ⟨#[]⟩, .slice none 0 0], .int .i64 0, .int .i64 v]) (by simp [results, Try.results9, go_sem, r0, r1, r2]) rfl ?_
      rw [HP.out]
      exact ⟨none, 0, M2, rfl, exv_zero M2, (hM.kp hset (by simpa using hb0.out)), hE, (hK.inner hset (by simp))⟩
theorem rParse_calls {s : Bs} {o : E × Int × Int} (hs : s.length ≤ 1099511627776) (h : Reads s o) {w : World} {M : Heap} (hM : Mem w M) : Calls Try.prog 9 #[.string (bs s)] w (PEnd w M o) := by
  rcases h with ⟨hl, rfl⟩ | ⟨hl, k, x, hx, rfl⟩
  · exact rParse_large hM hl hs
  · exact rParse_small hM hl hx
end Go.Proofs.Ytgdnhlckodhhgaa
