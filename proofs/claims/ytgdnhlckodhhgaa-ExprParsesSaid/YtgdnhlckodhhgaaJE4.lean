/-
  The reference's reader: the levels of -, % and /; the level of chains.
-/
import Derived.Test.YtgdnhlckodhhgaaJG
namespace Go.Proofs.Ytgdnhlckodhhgaa
open Go.RowKit
set_option linter.unusedVariables false
set_option linter.unusedSimpArgs false
set_option maxRecDepth 100000 in
set_option maxHeartbeats 4000000 in
theorem rlevel6 {k : Nat} (hS : RSpec 72 [] 6 k) : RSpec 49 [.int .i64 0] 6 k := by
  intro g l r w M x p nx kd sy hT hB hM hl hx
  have H1 := Hid.mk hx
  have HT := Hid.mk hT
  have hgw : g < w.heap.size := Box.lt hB
  clear hx hT
  show Calls Try.prog 49 #[.pointer (some ⟨g, 0, none⟩), .int .i64 0] w (REnd w M g l x)
  go_enter Try.func49, Try.ntmps49
  go_wp2_with fail
  refine (hS g l r _ M x p nx kd sy HT.out (Box.alloc hB _) (hM.alloc _) hl H1.out).mono ?_
  rintro e w1 ⟨o1, s1, A1, n1, c1, p1, nx1, kd1, sy1, bd1, M1, rfl, hk1, hB1, hM1, he1, hG1⟩
  have hsz : w.heap.size < w1.heap.size := by have := hk1.size; simp at this; omega
  have hb8 : Box w1 M1 w.heap.size #[.int .i64 0, .string ⟨#[]⟩, .slice none 0 0] 25 := (Box.new hM _ _).kp hk1 (by simp; omega) he1 (by simp)
  have HA := Hid.mk (And.intro hk1 (And.intro hB1 (And.intro hM1 (And.intro he1 (And.intro hG1 hb8)))))
  obtain ⟨⟨p0, p1', p2'⟩, f0', f1', f2'⟩ := hb8.three
  clear hk1 hB1 hM1 he1 hG1 hb8 hB hM
  go_wp2_with fail
  obtain ⟨hk1, hB1, hM1, he1, hG1, hb8⟩ := HA.out
  have hk3 := Kp.set3 (b := w.heap.size) (x' := .int .i64 o1) (y' := .string s1) (z' := .slice A1 n1 c1) (Kp.refl [w.heap.size] w1) (.inl (by simp))
  obtain ⟨⟨r0, r1, r2⟩, _, _, _⟩ := (hb8.set3 (x' := .int .i64 o1) (y' := .string s1) (z' := .slice A1 n1 c1)).three
  refine bodyPost_ret (v := .agg #[.int .i64 o1, .string s1, .slice A1 n1 c1]) (by simp [results, Try.results49, go_sem, r0, r1, r2]) rfl ?_
  exact ⟨_, _, _, _, _, p1, nx1, kd1, sy1, bd1, M1, rfl, (((Kp.refl [g] w).alloc _).trans hk1).set3 (.inr (Nat.le_refl _)), Box.same hB1 hk3 (by simp; omega), hM1.kp hk3 (by simpa using hb8.out), he1.low (by simp), hG1⟩
set_option maxRecDepth 100000 in
set_option maxHeartbeats 4000000 in
theorem rlevel1 {k : Nat} (hS : ∀ k', k' ≤ k → RSpec 49 [.int .i64 124] 2 k') : RSpec 49 [.int .i64 45] 1 (k + 1) := by
  intro g l r w M x p nx kd sy hT hB hM hl hx
  simp only [G] at hx
  obtain ⟨z, h1, h2⟩ := bx_any hx
  clear hx
  obtain ⟨i0, hi, hz⟩ := Option.map_eq_some_iff.1 Try.infoE
  simp only [Prod.mk.injEq] at hz
  obtain ⟨hz0, hz1, hz2⟩ := hz
  have HI := Hid.mk (And.intro hi (And.intro hz0 (And.intro hz1 hz2)))
  clear hi hz0 hz1 hz2
  have TG : Hid (∀ w, Calls Try.prog 73 #[.int .i64 45] w fun e w' => e = .returned (.int .i64 124) ∧ w = w') := Hid.mk (fun w => tighter_calls 1 (by decide) w)
  have TO : Hid (∀ w, Calls Try.prog 74 #[.int .i64 45] w fun e w' => e = .returned (.int .i64 7) ∧ w = w') := Hid.mk (fun w => opOf_calls 1 (by decide) w)
  have hf := Hid.mk (fun a r1 (e : z = .ok (a, r1)) => lv_less h1 e)
  have H1 := Hid.mk h1
  have H2 := Hid.mk h2
  have HT := Hid.mk hT
  have hgw : g < w.heap.size := Box.lt hB
  clear h1 h2 hT
  show Calls Try.prog 49 #[.pointer (some ⟨g, 0, none⟩), .int .i64 45] w (REnd w M g l x)
  go_enter Try.func49, Try.ntmps49
  go_wp2_with (go_at_call 73; refine (TG.out _).mono ?_; rintro e w' ⟨rfl, rfl⟩)
  refine (hS k (Nat.le_refl _) g l r _ M z p nx kd sy HT.out (Box.alloc hB _) (hM.alloc _) hl H1.out).mono ?_
  rintro e w1 ⟨o1, s1, A1, n1, c1, p1, nx1, kd1, sy1, bd1, M1, rfl, hk1, hB1, hM1, he1, hG1⟩
  have hsz : w.heap.size < w1.heap.size := by have := hk1.size; simp at this; omega
  have hb8 : Box w1 M1 w.heap.size #[.int .i64 0, .string ⟨#[]⟩, .slice none 0 0] 25 := (Box.new hM _ _).kp hk1 (by simp; omega) he1 (by simp)
  go_wp2_with fail
  go_loopg [5] k (fun kk v3 wr => ∃ t1 M' g0 cap p nx kd sy bd, kk ≤ k ∧ v3 = .slice (some ⟨g0, 0, none⟩) 1 cap ∧ Sl wr M' 25 3 g0 1 cap (raw [t1]) ∧ Box wr M' w.heap.size #[.int .i64 0, .string ⟨#[]⟩, .slice none 0 0] 25 ∧ Mem wr M' ∧ Ext w.heap.size M M' ∧ PB wr M' g l p nx kd sy bd ∧ Kp [g] w wr ∧ w.heap.size < g0 ∧ Hid (LGh M' l x kk (mkL 1) [t1] p nx kd sy bd))
  case atStart =>
    refine ⟨⟨o1, s1, A1, n1, c1⟩, M1, w1.heap.size, 1, p1, nx1, kd1, sy1, bd1, Nat.le_refl _, rfl, ?_, hb8.alloc _, hM1.alloc _, he1.low (by simp), Box.alloc hB1 _, ?_, hsz, Hid.mk ?_⟩
    · exact Sl.lit (heap_alloc_new _ _) hM1.new rfl (by unfold maxLen; simp)
    · exact (((Kp.refl _ _).alloc _).trans hk1).alloc _
    · exact lgh_first HT.out.1 hf.out hG1 H2.out
  case round =>
    obtain ⟨t1, M', g0, cap, p2, nx2, kd2, sy2, bd2, hkk, rfl, hsl, hb8', hM', he', hB', hK, hg0, hG⟩ := hrel
    clear hb8 hM1 he1 hB1 hk1 hG1 hB hM
    have hb8 := hb8'
    have hB := hB'
    clear hb8' hB'
    obtain ⟨⟨c0, c1, c2, c3, c4, c5⟩, f1, f2, f3, f4, f5⟩ := PB.cells hB
    clear c0 c1 c2 c4 f1 f2 f3 f4 f5
    have HPB := Hid.mk hB
    cases bd2 with
    | true =>
      have X := Hid.mk (left_over (by decide) (by decide) hG.out (.inl rfl))
      clear hG
      have HA := Hid.mk (And.intro hsl (And.intro hb8 (And.intro hM' (And.intro he' (And.intro hB hK)))))
      obtain ⟨⟨p0, p1, p2'⟩, f0', f1', f2'⟩ := hb8.three
      have q0 := hsl.cell (j := 0) (v := .int .i64 t1.o) rfl
      have q1 := hsl.cell (j := 1) (v := .string t1.s) rfl
      have q2 := hsl.cell (j := 2) (v := .slice t1.A t1.n t1.c) rfl
      clear hsl hb8 hM' he' hB hK
      go_wp2_with fail
      obtain ⟨hsl, hb8, hM', he', hB, hK⟩ := HA.out
      have hk3 := Kp.set3 (b := w.heap.size) (x' := .int .i64 t1.o) (y' := .string t1.s) (z' := .slice t1.A t1.n t1.c) (Kp.refl [w.heap.size] wr) (.inl (by simp))
      obtain ⟨⟨r0, r1, r2⟩, _, _, _⟩ := (hb8.set3 (x' := .int .i64 t1.o) (y' := .string t1.s) (z' := .slice t1.A t1.n t1.c)).three
      refine bodyPost_ret (v := .agg #[.int .i64 t1.o, .string t1.s, .slice t1.A t1.n t1.c]) (by simp [results, Try.results49, go_sem, r0, r1, r2]) rfl ?_
      exact ⟨_, _, _, _, _, p2, nx2, kd2, sy2, _, M', rfl, hK.set3 (.inr (Nat.le_refl _)), Box.same hB hk3 (by simp; omega), hM'.kp hk3 (by simpa using hb8.out), he', X.out⟩
    | false =>
      by_cases hat : kd2 = 45
      · have hatb : (kd2 == 45) = true := by rw [hat]; rfl
        obtain ⟨kk, a1, A2, c2, r', z', rfl, rfl, hxa, hT', ht, h6, h7, h8⟩ := left_more (by decide) (by decide) hG.out hat
        have hf' := Hid.mk (fun a r1 (e : z' = .ok (a, r1)) => lv_less h6 e)
        have H6 := Hid.mk h6
        have H8 := Hid.mk h8
        have HT' := Hid.mk hT'
        have Ht := Hid.mk ht
        have HAT := Hid.mk hat
        clear h6 h8 hT' hG ht hat
        have hlt0 := hsl.lt
        have HA := Hid.mk (And.intro hsl (And.intro hb8 (And.intro hxa (And.intro hM' (And.intro he' hK)))))
        clear hsl hb8 hxa he' hK
        go_wp2_with fail
        refine (adv_calls hl HT'.out Ht.out HPB.out).mono ?_
        rintro e w2 ⟨p4, nx4, kd4, sy4, rfl, hk2, hB2, hT2⟩
        have HT2 := Hid.mk hT2
        have hM2 := hM'.kp hk2 (by simpa using hB2.out)
        clear hT2 hB hM'
        go_wp2_with (go_at_call 73; refine (TG.out _).mono ?_; rintro e w' ⟨rfl, rfl⟩)
        refine (hS kk (by omega) g l _ _ M' z' p4 nx4 kd4 sy4 HT2.out hB2 hM2 hl H6.out).mono ?_
        rintro e w3 ⟨o3, s3, A3, n3, c3, p3, nx3, kd3, sy3, bd3, M3, rfl, hk3, hB3, hM3, he3, hG3⟩
        clear hB2 hM2
        obtain ⟨hsl, hb8, hxa, hM', he', hK⟩ := HA.out
        have hsl2 := hsl.same hk2 (by simp; omega)
        have hb82 := hb8.same hk2 (by simp; omega)
        have hsl3 := hsl2.kp hk3 (by simp; omega) he3 hsl2.lt
        have hb83 := hb82.kp hk3 (by simp; omega) he3 hb82.lt
        have hz3 := hsl3.lt
        have HA := Hid.mk (And.intro hsl3 (And.intro hb83 (And.intro hxa (And.intro hM3 (And.intro he' (And.intro (he3.low hk2.size) (And.intro hK (And.intro (hk2.trans hk3) (And.intro hB3 hG3)))))))))
        clear hsl hb8 hxa hM' he' hK hsl2 hb82 hsl3 hb83 hM3 he3 hk2 hk3 hB3 hG3
        have hbig : (1 + 1 ≤ maxLen) ∧ (1 + 1) * 48 ≤ 140737488355328 := by unfold maxLen; omega
        have HB := Hid.mk hbig
        clear hbig
        go_wp2_with (first | (at_builtin; go_must (refine wpList_append_lies _ rfl (.tmp 30) (.tmp 35) 23 rfl 0 25 i0 _ 3 48 Try.underlying23 HI.out.1 HI.out.2.1 HI.out.2.2.1 HI.out.2.2.2 rfl (Nat.succ_pos 2) _ 1 (raw [rt (a1, A2, c2)]) rfl (HA.out.1.alloc _).own ⟨w3.heap.size, 0, none⟩ 1 1 (raw [⟨o3, s3, A3, n3, c3⟩]) rfl rfl (raw_cells (heap_alloc_new _ _)) raw_one Nat.one_pos HB.out.1 HB.out.2 (Nat.zero_le _) (w3.heap.size + 1) (by simp) ?_); intro g1 cap1 w5 hown5 hgr5 hat5 hlt5) | (go_at_call 74; refine (TO.out _).mono ?_; rintro e w' ⟨rfl, rfl⟩))
        obtain ⟨hsl, hb8, hxa, hM3, he', he3, hK, hk3, hB3, hG3⟩ := HA.out
        have hk5 := Kp.of_grown hgr5
        have hat' : (some g0 : Option Nat) = some g1 ∨ g1 = w3.heap.size + 1 := hat5
        clear hat5
        simp only [Option.some.injEq] at hat'
        have hlt8 := hb8.lt
        have hsl5 : Sl w5 M3 25 3 g1 2 cap1 (raw [rt (a1, A2, c2), ⟨o3, s3, A3, n3, c3⟩]) := ⟨hown5, by
          rcases hat' with h | h
          · rw [← h]; exact hsl.out
          · rw [h]; exact hM3.ge (by omega)⟩
        have hM5 := (hM3.alloc (.cells #[.int .i64 o3, .string s3, .slice A3 n3 c3] 25)).kp hk5 (by simpa using hsl.out)
        obtain ⟨M4, hL4, hM4, he4, hno⟩ := left_next (n := 1) (m := w.heap.size) hsl5 hM5 (by omega) (hxa.ext he3) (by omega) hf'.out hG3 H8.out
        have hb5 := (hb8.alloc (.cells #[.int .i64 o3, .string s3, .slice A3 n3 c3] 25)).same hk5 (by simp; omega)
        have hB5 := Box.same (Box.alloc hB3 (.cells #[.int .i64 o3, .string s3, .slice A3 n3 c3] 25)) hk5 (by simp; omega)
        have hK5 := ((hK.trans hk3).alloc (.cells #[.int .i64 o3, .string s3, .slice A3 n3 c3] 25)).inner hk5 (by simp; omega)
        have hw5 := hb5.lt
        go_roundg kk
        case measure => omega
        case rel =>
          refine ⟨⟨7, ⟨#[]⟩, some ⟨g1, 0, none⟩, 2, cap1⟩, M4, w5.heap.size, 1, p3, nx3, kd3, sy3, bd3, by omega, rfl, ?_, ⟨(hb5.alloc _).blk, hno _ (by omega) hb5.out⟩, hM4.alloc _, ?_, ⟨(Box.alloc hB5 _).blk, hno _ (by omega) hB5.out⟩, hK5.alloc _, by omega, Hid.mk hL4⟩
          · exact Sl.lit (heap_alloc_new _ _) hM4.new rfl (by unfold maxLen; simp)
          · exact (he'.trans (he3.low hK.size) (Nat.le_refl _)).trans he4 (Nat.le_refl _)
      · have hatb : (kd2 == 45) = false := by simpa using hat
        have HAT := Hid.mk hat
        clear hat
        have X := Hid.mk (left_over (by decide) (by decide) hG.out (.inr HAT.out))
        clear hG
        have HA := Hid.mk (And.intro hsl (And.intro hb8 (And.intro hM' (And.intro he' (And.intro hB hK)))))
        obtain ⟨⟨p0, p1, p2'⟩, f0', f1', f2'⟩ := hb8.three
        have q0 := hsl.cell (j := 0) (v := .int .i64 t1.o) rfl
        have q1 := hsl.cell (j := 1) (v := .string t1.s) rfl
        have q2 := hsl.cell (j := 2) (v := .slice t1.A t1.n t1.c) rfl
        clear hsl hb8 hM' he' hB hK
        go_wp2_with fail
        obtain ⟨hsl, hb8, hM', he', hB, hK⟩ := HA.out
        have hk3 := Kp.set3 (b := w.heap.size) (x' := .int .i64 t1.o) (y' := .string t1.s) (z' := .slice t1.A t1.n t1.c) (Kp.refl [w.heap.size] wr) (.inl (by simp))
        obtain ⟨⟨r0, r1, r2⟩, _, _, _⟩ := (hb8.set3 (x' := .int .i64 t1.o) (y' := .string t1.s) (z' := .slice t1.A t1.n t1.c)).three
        refine bodyPost_ret (v := .agg #[.int .i64 t1.o, .string t1.s, .slice t1.A t1.n t1.c]) (by simp [results, Try.results49, go_sem, r0, r1, r2]) rfl ?_
        exact ⟨_, _, _, _, _, p2, nx2, kd2, sy2, _, M', rfl, hK.set3 (.inr (Nat.le_refl _)), Box.same hB hk3 (by simp; omega), hM'.kp hk3 (by simpa using hb8.out), he', X.out⟩
set_option maxRecDepth 100000 in
set_option maxHeartbeats 4000000 in
theorem rlevel4 {k : Nat} (hS : ∀ k', k' ≤ k → RSpec 49 [.int .i64 47] 5 k') : RSpec 49 [.int .i64 37] 4 (k + 1) := by
  intro g l r w M x p nx kd sy hT hB hM hl hx
  simp only [G] at hx
  obtain ⟨z, h1, h2⟩ := bx_any hx
  clear hx
  obtain ⟨i0, hi, hz⟩ := Option.map_eq_some_iff.1 Try.infoE
  simp only [Prod.mk.injEq] at hz
  obtain ⟨hz0, hz1, hz2⟩ := hz
  have HI := Hid.mk (And.intro hi (And.intro hz0 (And.intro hz1 hz2)))
  clear hi hz0 hz1 hz2
  have TG : Hid (∀ w, Calls Try.prog 73 #[.int .i64 37] w fun e w' => e = .returned (.int .i64 47) ∧ w = w') := Hid.mk (fun w => tighter_calls 4 (by decide) w)
  have TO : Hid (∀ w, Calls Try.prog 74 #[.int .i64 37] w fun e w' => e = .returned (.int .i64 15) ∧ w = w') := Hid.mk (fun w => opOf_calls 4 (by decide) w)
  have hf := Hid.mk (fun a r1 (e : z = .ok (a, r1)) => lv_less h1 e)
  have H1 := Hid.mk h1
  have H2 := Hid.mk h2
  have HT := Hid.mk hT
  have hgw : g < w.heap.size := Box.lt hB
  clear h1 h2 hT
  show Calls Try.prog 49 #[.pointer (some ⟨g, 0, none⟩), .int .i64 37] w (REnd w M g l x)
  go_enter Try.func49, Try.ntmps49
  go_wp2_with (go_at_call 73; refine (TG.out _).mono ?_; rintro e w' ⟨rfl, rfl⟩)
  refine (hS k (Nat.le_refl _) g l r _ M z p nx kd sy HT.out (Box.alloc hB _) (hM.alloc _) hl H1.out).mono ?_
  rintro e w1 ⟨o1, s1, A1, n1, c1, p1, nx1, kd1, sy1, bd1, M1, rfl, hk1, hB1, hM1, he1, hG1⟩
  have hsz : w.heap.size < w1.heap.size := by have := hk1.size; simp at this; omega
  have hb8 : Box w1 M1 w.heap.size #[.int .i64 0, .string ⟨#[]⟩, .slice none 0 0] 25 := (Box.new hM _ _).kp hk1 (by simp; omega) he1 (by simp)
  go_wp2_with fail
  go_loopg [5] k (fun kk v3 wr => ∃ t1 M' g0 cap p nx kd sy bd, kk ≤ k ∧ v3 = .slice (some ⟨g0, 0, none⟩) 1 cap ∧ Sl wr M' 25 3 g0 1 cap (raw [t1]) ∧ Box wr M' w.heap.size #[.int .i64 0, .string ⟨#[]⟩, .slice none 0 0] 25 ∧ Mem wr M' ∧ Ext w.heap.size M M' ∧ PB wr M' g l p nx kd sy bd ∧ Kp [g] w wr ∧ w.heap.size < g0 ∧ Hid (LGh M' l x kk (mkL 4) [t1] p nx kd sy bd))
  case atStart =>
    refine ⟨⟨o1, s1, A1, n1, c1⟩, M1, w1.heap.size, 1, p1, nx1, kd1, sy1, bd1, Nat.le_refl _, rfl, ?_, hb8.alloc _, hM1.alloc _, he1.low (by simp), Box.alloc hB1 _, ?_, hsz, Hid.mk ?_⟩
    · exact Sl.lit (heap_alloc_new _ _) hM1.new rfl (by unfold maxLen; simp)
    · exact (((Kp.refl _ _).alloc _).trans hk1).alloc _
    · exact lgh_first HT.out.1 hf.out hG1 H2.out
  case round =>
    obtain ⟨t1, M', g0, cap, p2, nx2, kd2, sy2, bd2, hkk, rfl, hsl, hb8', hM', he', hB', hK, hg0, hG⟩ := hrel
    clear hb8 hM1 he1 hB1 hk1 hG1 hB hM
    have hb8 := hb8'
    have hB := hB'
    clear hb8' hB'
    obtain ⟨⟨c0, c1, c2, c3, c4, c5⟩, f1, f2, f3, f4, f5⟩ := PB.cells hB
    clear c0 c1 c2 c4 f1 f2 f3 f4 f5
    have HPB := Hid.mk hB
    cases bd2 with
    | true =>
      have X := Hid.mk (left_over (by decide) (by decide) hG.out (.inl rfl))
      clear hG
      have HA := Hid.mk (And.intro hsl (And.intro hb8 (And.intro hM' (And.intro he' (And.intro hB hK)))))
      obtain ⟨⟨p0, p1, p2'⟩, f0', f1', f2'⟩ := hb8.three
      have q0 := hsl.cell (j := 0) (v := .int .i64 t1.o) rfl
      have q1 := hsl.cell (j := 1) (v := .string t1.s) rfl
      have q2 := hsl.cell (j := 2) (v := .slice t1.A t1.n t1.c) rfl
      clear hsl hb8 hM' he' hB hK
      go_wp2_with fail
      obtain ⟨hsl, hb8, hM', he', hB, hK⟩ := HA.out
      have hk3 := Kp.set3 (b := w.heap.size) (x' := .int .i64 t1.o) (y' := .string t1.s) (z' := .slice t1.A t1.n t1.c) (Kp.refl [w.heap.size] wr) (.inl (by simp))
      obtain ⟨⟨r0, r1, r2⟩, _, _, _⟩ := (hb8.set3 (x' := .int .i64 t1.o) (y' := .string t1.s) (z' := .slice t1.A t1.n t1.c)).three
      refine bodyPost_ret (v := .agg #[.int .i64 t1.o, .string t1.s, .slice t1.A t1.n t1.c]) (by simp [results, Try.results49, go_sem, r0, r1, r2]) rfl ?_
      exact ⟨_, _, _, _, _, p2, nx2, kd2, sy2, _, M', rfl, hK.set3 (.inr (Nat.le_refl _)), Box.same hB hk3 (by simp; omega), hM'.kp hk3 (by simpa using hb8.out), he', X.out⟩
    | false =>
      by_cases hat : kd2 = 37
      · have hatb : (kd2 == 37) = true := by rw [hat]; rfl
        obtain ⟨kk, a1, A2, c2, r', z', rfl, rfl, hxa, hT', ht, h6, h7, h8⟩ := left_more (by decide) (by decide) hG.out hat
        have hf' := Hid.mk (fun a r1 (e : z' = .ok (a, r1)) => lv_less h6 e)
        have H6 := Hid.mk h6
        have H8 := Hid.mk h8
        have HT' := Hid.mk hT'
        have Ht := Hid.mk ht
        have HAT := Hid.mk hat
        clear h6 h8 hT' hG ht hat
        have hlt0 := hsl.lt
        have HA := Hid.mk (And.intro hsl (And.intro hb8 (And.intro hxa (And.intro hM' (And.intro he' hK)))))
        clear hsl hb8 hxa he' hK
        go_wp2_with fail
        refine (adv_calls hl HT'.out Ht.out HPB.out).mono ?_
        rintro e w2 ⟨p4, nx4, kd4, sy4, rfl, hk2, hB2, hT2⟩
        have HT2 := Hid.mk hT2
        have hM2 := hM'.kp hk2 (by simpa using hB2.out)
        clear hT2 hB hM'
        go_wp2_with (go_at_call 73; refine (TG.out _).mono ?_; rintro e w' ⟨rfl, rfl⟩)
        refine (hS kk (by omega) g l _ _ M' z' p4 nx4 kd4 sy4 HT2.out hB2 hM2 hl H6.out).mono ?_
        rintro e w3 ⟨o3, s3, A3, n3, c3, p3, nx3, kd3, sy3, bd3, M3, rfl, hk3, hB3, hM3, he3, hG3⟩
        clear hB2 hM2
        obtain ⟨hsl, hb8, hxa, hM', he', hK⟩ := HA.out
        have hsl2 := hsl.same hk2 (by simp; omega)
        have hb82 := hb8.same hk2 (by simp; omega)
        have hsl3 := hsl2.kp hk3 (by simp; omega) he3 hsl2.lt
        have hb83 := hb82.kp hk3 (by simp; omega) he3 hb82.lt
        have hz3 := hsl3.lt
        have HA := Hid.mk (And.intro hsl3 (And.intro hb83 (And.intro hxa (And.intro hM3 (And.intro he' (And.intro (he3.low hk2.size) (And.intro hK (And.intro (hk2.trans hk3) (And.intro hB3 hG3)))))))))
        clear hsl hb8 hxa hM' he' hK hsl2 hb82 hsl3 hb83 hM3 he3 hk2 hk3 hB3 hG3
        have hbig : (1 + 1 ≤ maxLen) ∧ (1 + 1) * 48 ≤ 140737488355328 := by unfold maxLen; omega
        have HB := Hid.mk hbig
        clear hbig
        go_wp2_with (first | (at_builtin; go_must (refine wpList_append_lies _ rfl (.tmp 30) (.tmp 35) 23 rfl 0 25 i0 _ 3 48 Try.underlying23 HI.out.1 HI.out.2.1 HI.out.2.2.1 HI.out.2.2.2 rfl (Nat.succ_pos 2) _ 1 (raw [rt (a1, A2, c2)]) rfl (HA.out.1.alloc _).own ⟨w3.heap.size, 0, none⟩ 1 1 (raw [⟨o3, s3, A3, n3, c3⟩]) rfl rfl (raw_cells (heap_alloc_new _ _)) raw_one Nat.one_pos HB.out.1 HB.out.2 (Nat.zero_le _) (w3.heap.size + 1) (by simp) ?_); intro g1 cap1 w5 hown5 hgr5 hat5 hlt5) | (go_at_call 74; refine (TO.out _).mono ?_; rintro e w' ⟨rfl, rfl⟩))
        obtain ⟨hsl, hb8, hxa, hM3, he', he3, hK, hk3, hB3, hG3⟩ := HA.out
        have hk5 := Kp.of_grown hgr5
        have hat' : (some g0 : Option Nat) = some g1 ∨ g1 = w3.heap.size + 1 := hat5
        clear hat5
        simp only [Option.some.injEq] at hat'
        have hlt8 := hb8.lt
        have hsl5 : Sl w5 M3 25 3 g1 2 cap1 (raw [rt (a1, A2, c2), ⟨o3, s3, A3, n3, c3⟩]) := ⟨hown5, by
          rcases hat' with h | h
          · rw [← h]; exact hsl.out
          · rw [h]; exact hM3.ge (by omega)⟩
        have hM5 := (hM3.alloc (.cells #[.int .i64 o3, .string s3, .slice A3 n3 c3] 25)).kp hk5 (by simpa using hsl.out)
        obtain ⟨M4, hL4, hM4, he4, hno⟩ := left_next (n := 4) (m := w.heap.size) hsl5 hM5 (by omega) (hxa.ext he3) (by omega) hf'.out hG3 H8.out
        have hb5 := (hb8.alloc (.cells #[.int .i64 o3, .string s3, .slice A3 n3 c3] 25)).same hk5 (by simp; omega)
        have hB5 := Box.same (Box.alloc hB3 (.cells #[.int .i64 o3, .string s3, .slice A3 n3 c3] 25)) hk5 (by simp; omega)
        have hK5 := ((hK.trans hk3).alloc (.cells #[.int .i64 o3, .string s3, .slice A3 n3 c3] 25)).inner hk5 (by simp; omega)
        have hw5 := hb5.lt
        go_roundg kk
        case measure => omega
        case rel =>
          refine ⟨⟨15, ⟨#[]⟩, some ⟨g1, 0, none⟩, 2, cap1⟩, M4, w5.heap.size, 1, p3, nx3, kd3, sy3, bd3, by omega, rfl, ?_, ⟨(hb5.alloc _).blk, hno _ (by omega) hb5.out⟩, hM4.alloc _, ?_, ⟨(Box.alloc hB5 _).blk, hno _ (by omega) hB5.out⟩, hK5.alloc _, by omega, Hid.mk hL4⟩
          · exact Sl.lit (heap_alloc_new _ _) hM4.new rfl (by unfold maxLen; simp)
          · exact (he'.trans (he3.low hK.size) (Nat.le_refl _)).trans he4 (Nat.le_refl _)
      · have hatb : (kd2 == 37) = false := by simpa using hat
        have HAT := Hid.mk hat
        clear hat
        have X := Hid.mk (left_over (by decide) (by decide) hG.out (.inr HAT.out))
        clear hG
        have HA := Hid.mk (And.intro hsl (And.intro hb8 (And.intro hM' (And.intro he' (And.intro hB hK)))))
        obtain ⟨⟨p0, p1, p2'⟩, f0', f1', f2'⟩ := hb8.three
        have q0 := hsl.cell (j := 0) (v := .int .i64 t1.o) rfl
        have q1 := hsl.cell (j := 1) (v := .string t1.s) rfl
        have q2 := hsl.cell (j := 2) (v := .slice t1.A t1.n t1.c) rfl
        clear hsl hb8 hM' he' hB hK
        go_wp2_with fail
        obtain ⟨hsl, hb8, hM', he', hB, hK⟩ := HA.out
        have hk3 := Kp.set3 (b := w.heap.size) (x' := .int .i64 t1.o) (y' := .string t1.s) (z' := .slice t1.A t1.n t1.c) (Kp.refl [w.heap.size] wr) (.inl (by simp))
        obtain ⟨⟨r0, r1, r2⟩, _, _, _⟩ := (hb8.set3 (x' := .int .i64 t1.o) (y' := .string t1.s) (z' := .slice t1.A t1.n t1.c)).three
        refine bodyPost_ret (v := .agg #[.int .i64 t1.o, .string t1.s, .slice t1.A t1.n t1.c]) (by simp [results, Try.results49, go_sem, r0, r1, r2]) rfl ?_
        exact ⟨_, _, _, _, _, p2, nx2, kd2, sy2, _, M', rfl, hK.set3 (.inr (Nat.le_refl _)), Box.same hB hk3 (by simp; omega), hM'.kp hk3 (by simpa using hb8.out), he', X.out⟩
set_option maxRecDepth 100000 in
set_option maxHeartbeats 4000000 in
theorem rlevel5 {k : Nat} (hS : ∀ k', k' ≤ k → RSpec 49 [.int .i64 0] 6 k') : RSpec 49 [.int .i64 47] 5 (k + 1) := by
  intro g l r w M x p nx kd sy hT hB hM hl hx
  simp only [G] at hx
  obtain ⟨z, h1, h2⟩ := bx_any hx
  clear hx
  obtain ⟨i0, hi, hz⟩ := Option.map_eq_some_iff.1 Try.infoE
  simp only [Prod.mk.injEq] at hz
  obtain ⟨hz0, hz1, hz2⟩ := hz
  have HI := Hid.mk (And.intro hi (And.intro hz0 (And.intro hz1 hz2)))
  clear hi hz0 hz1 hz2
  have TG : Hid (∀ w, Calls Try.prog 73 #[.int .i64 47] w fun e w' => e = .returned (.int .i64 0) ∧ w = w') := Hid.mk (fun w => tighter_calls 5 (by decide) w)
  have TO : Hid (∀ w, Calls Try.prog 74 #[.int .i64 47] w fun e w' => e = .returned (.int .i64 13) ∧ w = w') := Hid.mk (fun w => opOf_calls 5 (by decide) w)
  have hf := Hid.mk (fun a r1 (e : z = .ok (a, r1)) => lv_less h1 e)
  have H1 := Hid.mk h1
  have H2 := Hid.mk h2
  have HT := Hid.mk hT
  have hgw : g < w.heap.size := Box.lt hB
  clear h1 h2 hT
  show Calls Try.prog 49 #[.pointer (some ⟨g, 0, none⟩), .int .i64 47] w (REnd w M g l x)
  go_enter Try.func49, Try.ntmps49
  go_wp2_with (go_at_call 73; refine (TG.out _).mono ?_; rintro e w' ⟨rfl, rfl⟩)
  refine (hS k (Nat.le_refl _) g l r _ M z p nx kd sy HT.out (Box.alloc hB _) (hM.alloc _) hl H1.out).mono ?_
  rintro e w1 ⟨o1, s1, A1, n1, c1, p1, nx1, kd1, sy1, bd1, M1, rfl, hk1, hB1, hM1, he1, hG1⟩
  have hsz : w.heap.size < w1.heap.size := by have := hk1.size; simp at this; omega
  have hb8 : Box w1 M1 w.heap.size #[.int .i64 0, .string ⟨#[]⟩, .slice none 0 0] 25 := (Box.new hM _ _).kp hk1 (by simp; omega) he1 (by simp)
  go_wp2_with fail
  go_loopg [5] k (fun kk v3 wr => ∃ t1 M' g0 cap p nx kd sy bd, kk ≤ k ∧ v3 = .slice (some ⟨g0, 0, none⟩) 1 cap ∧ Sl wr M' 25 3 g0 1 cap (raw [t1]) ∧ Box wr M' w.heap.size #[.int .i64 0, .string ⟨#[]⟩, .slice none 0 0] 25 ∧ Mem wr M' ∧ Ext w.heap.size M M' ∧ PB wr M' g l p nx kd sy bd ∧ Kp [g] w wr ∧ w.heap.size < g0 ∧ Hid (LGh M' l x kk (mkL 5) [t1] p nx kd sy bd))
  case atStart =>
    refine ⟨⟨o1, s1, A1, n1, c1⟩, M1, w1.heap.size, 1, p1, nx1, kd1, sy1, bd1, Nat.le_refl _, rfl, ?_, hb8.alloc _, hM1.alloc _, he1.low (by simp), Box.alloc hB1 _, ?_, hsz, Hid.mk ?_⟩
    · exact Sl.lit (heap_alloc_new _ _) hM1.new rfl (by unfold maxLen; simp)
    · exact (((Kp.refl _ _).alloc _).trans hk1).alloc _
    · exact lgh_first HT.out.1 hf.out hG1 H2.out
  case round =>
    obtain ⟨t1, M', g0, cap, p2, nx2, kd2, sy2, bd2, hkk, rfl, hsl, hb8', hM', he', hB', hK, hg0, hG⟩ := hrel
    clear hb8 hM1 he1 hB1 hk1 hG1 hB hM
    have hb8 := hb8'
    have hB := hB'
    clear hb8' hB'
    obtain ⟨⟨c0, c1, c2, c3, c4, c5⟩, f1, f2, f3, f4, f5⟩ := PB.cells hB
    clear c0 c1 c2 c4 f1 f2 f3 f4 f5
    have HPB := Hid.mk hB
    cases bd2 with
    | true =>
      have X := Hid.mk (left_over (by decide) (by decide) hG.out (.inl rfl))
      clear hG
      have HA := Hid.mk (And.intro hsl (And.intro hb8 (And.intro hM' (And.intro he' (And.intro hB hK)))))
      obtain ⟨⟨p0, p1, p2'⟩, f0', f1', f2'⟩ := hb8.three
      have q0 := hsl.cell (j := 0) (v := .int .i64 t1.o) rfl
      have q1 := hsl.cell (j := 1) (v := .string t1.s) rfl
      have q2 := hsl.cell (j := 2) (v := .slice t1.A t1.n t1.c) rfl
      clear hsl hb8 hM' he' hB hK
      go_wp2_with fail
      obtain ⟨hsl, hb8, hM', he', hB, hK⟩ := HA.out
      have hk3 := Kp.set3 (b := w.heap.size) (x' := .int .i64 t1.o) (y' := .string t1.s) (z' := .slice t1.A t1.n t1.c) (Kp.refl [w.heap.size] wr) (.inl (by simp))
      obtain ⟨⟨r0, r1, r2⟩, _, _, _⟩ := (hb8.set3 (x' := .int .i64 t1.o) (y' := .string t1.s) (z' := .slice t1.A t1.n t1.c)).three
      refine bodyPost_ret (v := .agg #[.int .i64 t1.o, .string t1.s, .slice t1.A t1.n t1.c]) (by simp [results, Try.results49, go_sem, r0, r1, r2]) rfl ?_
      exact ⟨_, _, _, _, _, p2, nx2, kd2, sy2, _, M', rfl, hK.set3 (.inr (Nat.le_refl _)), Box.same hB hk3 (by simp; omega), hM'.kp hk3 (by simpa using hb8.out), he', X.out⟩
    | false =>
      by_cases hat : kd2 = 47
      · have hatb : (kd2 == 47) = true := by rw [hat]; rfl
        obtain ⟨kk, a1, A2, c2, r', z', rfl, rfl, hxa, hT', ht, h6, h7, h8⟩ := left_more (by decide) (by decide) hG.out hat
        have hf' := Hid.mk (fun a r1 (e : z' = .ok (a, r1)) => lv_less h6 e)
        have H6 := Hid.mk h6
        have H8 := Hid.mk h8
        have HT' := Hid.mk hT'
        have Ht := Hid.mk ht
        have HAT := Hid.mk hat
        clear h6 h8 hT' hG ht hat
        have hlt0 := hsl.lt
        have HA := Hid.mk (And.intro hsl (And.intro hb8 (And.intro hxa (And.intro hM' (And.intro he' hK)))))
        clear hsl hb8 hxa he' hK
        go_wp2_with fail
        refine (adv_calls hl HT'.out Ht.out HPB.out).mono ?_
        rintro e w2 ⟨p4, nx4, kd4, sy4, rfl, hk2, hB2, hT2⟩
        have HT2 := Hid.mk hT2
        have hM2 := hM'.kp hk2 (by simpa using hB2.out)
        clear hT2 hB hM'
        go_wp2_with (go_at_call 73; refine (TG.out _).mono ?_; rintro e w' ⟨rfl, rfl⟩)
        refine (hS kk (by omega) g l _ _ M' z' p4 nx4 kd4 sy4 HT2.out hB2 hM2 hl H6.out).mono ?_
        rintro e w3 ⟨o3, s3, A3, n3, c3, p3, nx3, kd3, sy3, bd3, M3, rfl, hk3, hB3, hM3, he3, hG3⟩
        clear hB2 hM2
        obtain ⟨hsl, hb8, hxa, hM', he', hK⟩ := HA.out
        have hsl2 := hsl.same hk2 (by simp; omega)
        have hb82 := hb8.same hk2 (by simp; omega)
        have hsl3 := hsl2.kp hk3 (by simp; omega) he3 hsl2.lt
        have hb83 := hb82.kp hk3 (by simp; omega) he3 hb82.lt
        have hz3 := hsl3.lt
        have HA := Hid.mk (And.intro hsl3 (And.intro hb83 (And.intro hxa (And.intro hM3 (And.intro he' (And.intro (he3.low hk2.size) (And.intro hK (And.intro (hk2.trans hk3) (And.intro hB3 hG3)))))))))
        clear hsl hb8 hxa hM' he' hK hsl2 hb82 hsl3 hb83 hM3 he3 hk2 hk3 hB3 hG3
        have hbig : (1 + 1 ≤ maxLen) ∧ (1 + 1) * 48 ≤ 140737488355328 := by unfold maxLen; omega
        have HB := Hid.mk hbig
        clear hbig
        go_wp2_with (first | (at_builtin; go_must (refine wpList_append_lies _ rfl (.tmp 30) (.tmp 35) 23 rfl 0 25 i0 _ 3 48 Try.underlying23 HI.out.1 HI.out.2.1 HI.out.2.2.1 HI.out.2.2.2 rfl (Nat.succ_pos 2) _ 1 (raw [rt (a1, A2, c2)]) rfl (HA.out.1.alloc _).own ⟨w3.heap.size, 0, none⟩ 1 1 (raw [⟨o3, s3, A3, n3, c3⟩]) rfl rfl (raw_cells (heap_alloc_new _ _)) raw_one Nat.one_pos HB.out.1 HB.out.2 (Nat.zero_le _) (w3.heap.size + 1) (by simp) ?_); intro g1 cap1 w5 hown5 hgr5 hat5 hlt5) | (go_at_call 74; refine (TO.out _).mono ?_; rintro e w' ⟨rfl, rfl⟩))
        obtain ⟨hsl, hb8, hxa, hM3, he', he3, hK, hk3, hB3, hG3⟩ := HA.out
        have hk5 := Kp.of_grown hgr5
        have hat' : (some g0 : Option Nat) = some g1 ∨ g1 = w3.heap.size + 1 := hat5
        clear hat5
        simp only [Option.some.injEq] at hat'
        have hlt8 := hb8.lt
        have hsl5 : Sl w5 M3 25 3 g1 2 cap1 (raw [rt (a1, A2, c2), ⟨o3, s3, A3, n3, c3⟩]) := ⟨hown5, by
          rcases hat' with h | h
          · rw [← h]; exact hsl.out
          · rw [h]; exact hM3.ge (by omega)⟩
        have hM5 := (hM3.alloc (.cells #[.int .i64 o3, .string s3, .slice A3 n3 c3] 25)).kp hk5 (by simpa using hsl.out)
        obtain ⟨M4, hL4, hM4, he4, hno⟩ := left_next (n := 5) (m := w.heap.size) hsl5 hM5 (by omega) (hxa.ext he3) (by omega) hf'.out hG3 H8.out
        have hb5 := (hb8.alloc (.cells #[.int .i64 o3, .string s3, .slice A3 n3 c3] 25)).same hk5 (by simp; omega)
        have hB5 := Box.same (Box.alloc hB3 (.cells #[.int .i64 o3, .string s3, .slice A3 n3 c3] 25)) hk5 (by simp; omega)
        have hK5 := ((hK.trans hk3).alloc (.cells #[.int .i64 o3, .string s3, .slice A3 n3 c3] 25)).inner hk5 (by simp; omega)
        have hw5 := hb5.lt
        go_roundg kk
        case measure => omega
        case rel =>
          refine ⟨⟨13, ⟨#[]⟩, some ⟨g1, 0, none⟩, 2, cap1⟩, M4, w5.heap.size, 1, p3, nx3, kd3, sy3, bd3, by omega, rfl, ?_, ⟨(hb5.alloc _).blk, hno _ (by omega) hb5.out⟩, hM4.alloc _, ?_, ⟨(Box.alloc hB5 _).blk, hno _ (by omega) hB5.out⟩, hK5.alloc _, by omega, Hid.mk hL4⟩
          · exact Sl.lit (heap_alloc_new _ _) hM4.new rfl (by unfold maxLen; simp)
          · exact (he'.trans (he3.low hK.size) (Nat.le_refl _)).trans he4 (Nat.le_refl _)
      · have hatb : (kd2 == 47) = false := by simpa using hat
        have HAT := Hid.mk hat
        clear hat
        have X := Hid.mk (left_over (by decide) (by decide) hG.out (.inr HAT.out))
        clear hG
        have HA := Hid.mk (And.intro hsl (And.intro hb8 (And.intro hM' (And.intro he' (And.intro hB hK)))))
        obtain ⟨⟨p0, p1, p2'⟩, f0', f1', f2'⟩ := hb8.three
        have q0 := hsl.cell (j := 0) (v := .int .i64 t1.o) rfl
        have q1 := hsl.cell (j := 1) (v := .string t1.s) rfl
        have q2 := hsl.cell (j := 2) (v := .slice t1.A t1.n t1.c) rfl
        clear hsl hb8 hM' he' hB hK
        go_wp2_with fail
        obtain ⟨hsl, hb8, hM', he', hB, hK⟩ := HA.out
        have hk3 := Kp.set3 (b := w.heap.size) (x' := .int .i64 t1.o) (y' := .string t1.s) (z' := .slice t1.A t1.n t1.c) (Kp.refl [w.heap.size] wr) (.inl (by simp))
        obtain ⟨⟨r0, r1, r2⟩, _, _, _⟩ := (hb8.set3 (x' := .int .i64 t1.o) (y' := .string t1.s) (z' := .slice t1.A t1.n t1.c)).three
        refine bodyPost_ret (v := .agg #[.int .i64 t1.o, .string t1.s, .slice t1.A t1.n t1.c]) (by simp [results, Try.results49, go_sem, r0, r1, r2]) rfl ?_
        exact ⟨_, _, _, _, _, p2, nx2, kd2, sy2, _, M', rfl, hK.set3 (.inr (Nat.le_refl _)), Box.same hB hk3 (by simp; omega), hM'.kp hk3 (by simpa using hb8.out), he', X.out⟩
end Go.Proofs.Ytgdnhlckodhhgaa
