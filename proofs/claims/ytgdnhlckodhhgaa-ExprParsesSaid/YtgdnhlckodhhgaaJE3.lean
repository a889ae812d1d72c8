/-
  The reference's reader: the levels of | and &.
-/
import Derived.Test.YtgdnhlckodhhgaaJG
namespace Go.Proofs.Ytgdnhlckodhhgaa
open Go.RowKit
set_option linter.unusedVariables false
set_option linter.unusedSimpArgs false
set_option maxRecDepth 100000 in
set_option maxHeartbeats 4000000 in
theorem rlevel2 {k : Nat} (hS : ∀ k', k' ≤ k → RSpec 49 [.int .i64 38] 3 k') : RSpec 49 [.int .i64 124] 2 (k + 1) := by
  intro g l r w M x p nx kd sy hT hB hM hl hx
  simp only [G] at hx
  obtain ⟨z, h1, h2⟩ := bx_any hx
  clear hx
  obtain ⟨i0, hi, hz⟩ := Option.map_eq_some_iff.1 Try.infoE
  simp only [Prod.mk.injEq] at hz
  obtain ⟨hz0, hz1, hz2⟩ := hz
  have HI := Hid.mk (And.intro hi (And.intro hz0 (And.intro hz1 hz2)))
  clear hi hz0 hz1 hz2
  have TG : Hid (∀ w, Calls Try.prog 73 #[.int .i64 124] w fun e w' => e = .returned (.int .i64 38) ∧ w = w') := Hid.mk (fun w => tighter_calls 2 (by decide) w)
  have TO : Hid (∀ w, Calls Try.prog 74 #[.int .i64 124] w fun e w' => e = .returned (.int .i64 5) ∧ w = w') := Hid.mk (fun w => opOf_calls 2 (by decide) w)
  have hf := Hid.mk (fun a r1 (e : z = .ok (a, r1)) => lv_less h1 e)
  have H1 := Hid.mk h1
  have H2 := Hid.mk h2
  have HT := Hid.mk hT
  have hgw : g < w.heap.size := Box.lt hB
  clear h1 h2 hT
  show Calls Try.prog 49 #[.pointer (some ⟨g, 0, none⟩), .int .i64 124] w (REnd w M g l x)
  go_enter Try.func49, Try.ntmps49
  go_wp2_with (go_at_call 73; refine (TG.out _).mono ?_; rintro e w' ⟨rfl, rfl⟩)
  refine (hS k (Nat.le_refl _) g l r _ M z p nx kd sy HT.out (Box.alloc hB _) (hM.alloc _) hl H1.out).mono ?_
  rintro e w1 ⟨o1, s1, A1, n1, c1, p1, nx1, kd1, sy1, bd1, M1, rfl, hk1, hB1, hM1, he1, hG1⟩
  have hsz : w.heap.size < w1.heap.size := by have := hk1.size; simp at this; omega
  have hb8 : Box w1 M1 w.heap.size #[.int .i64 0, .string ⟨#[]⟩, .slice none 0 0] 25 := (Box.new hM _ _).kp hk1 (by simp; omega) he1 (by simp)
  go_wp2_with fail
  go_loopg [5] k (fun kk v3 wr => ∃ ts M' g0 cap p nx kd sy bd, kk ≤ k ∧ v3 = .slice (some ⟨g0, 0, none⟩) ts.length cap ∧ Sl wr M' 25 3 g0 ts.length cap (raw ts) ∧ Box wr M' w.heap.size #[.int .i64 0, .string ⟨#[]⟩, .slice none 0 0] 25 ∧ Mem wr M' ∧ Ext w.heap.size M M' ∧ PB wr M' g l p nx kd sy bd ∧ Kp [g] w wr ∧ 0 < ts.length ∧ w.heap.size < g0 ∧ Hid (LGh M' l x kk (.all 2) ts p nx kd sy bd))
  case atStart =>
    refine ⟨[⟨o1, s1, A1, n1, c1⟩], M1, w1.heap.size, 1, p1, nx1, kd1, sy1, bd1, Nat.le_refl _, rfl, ?_, hb8.alloc _, hM1.alloc _, he1.low (by simp), Box.alloc hB1 _, ?_, by simp, hsz, Hid.mk ?_⟩
    · exact Sl.lit (heap_alloc_new _ _) hM1.new rfl (by unfold maxLen; simp)
    · exact (((Kp.refl _ _).alloc _).trans hk1).alloc _
    · exact lgh_first HT.out.1 hf.out hG1 H2.out
  case round =>
    obtain ⟨ts, M', g0, cap, p2, nx2, kd2, sy2, bd2, hkk, rfl, hsl, hb8', hM', he', hB', hK, hpos, hg0, hG⟩ := hrel
    clear hb8 hM1 he1 hB1 hk1 hG1 hB hM
    have hb8 := hb8'
    have hB := hB'
    clear hb8' hB'
    obtain ⟨⟨c0, c1, c2, c3, c4, c5⟩, f1, f2, f3, f4, f5⟩ := PB.cells hB
    clear c0 c1 c2 c4 f1 f2 f3 f4 f5
    have HPB := Hid.mk hB
    have hlen := hG.out.len
    cases bd2 with
    | true =>
      have X := Hid.mk (all_over (by decide) (by decide) hG.out (.inl rfl))
      clear hG
      have HA := Hid.mk (And.intro hsl (And.intro hb8 (And.intro hM' (And.intro he' (And.intro hB hK)))))
      obtain ⟨⟨p0, p1, p2'⟩, f0', f1', f2'⟩ := hb8.three
      by_cases h1 : ts.length = 1
      · obtain ⟨t1, rfl⟩ : ∃ t, ts = [t] := by
          match ts, h1 with
          | [t], _ => exact ⟨t, rfl⟩
        have q0 := hsl.cell (j := 0) (v := .int .i64 t1.o) rfl
        have q1 := hsl.cell (j := 1) (v := .string t1.s) rfl
        have q2 := hsl.cell (j := 2) (v := .slice t1.A t1.n t1.c) rfl
        clear hsl hb8 hM' he' hB hK h1
        go_wp2_with fail
        obtain ⟨hsl, hb8, hM', he', hB, hK⟩ := HA.out
        have hk3 := Kp.set3 (b := w.heap.size) (x' := .int .i64 t1.o) (y' := .string t1.s) (z' := .slice t1.A t1.n t1.c) (Kp.refl [w.heap.size] wr) (.inl (by simp))
        obtain ⟨⟨r0, r1, r2⟩, _, _, _⟩ := (hb8.set3 (x' := .int .i64 t1.o) (y' := .string t1.s) (z' := .slice t1.A t1.n t1.c)).three
        refine bodyPost_ret (v := .agg #[.int .i64 t1.o, .string t1.s, .slice t1.A t1.n t1.c]) (by simp [results, Try.results49, go_sem, r0, r1, r2]) rfl ?_
        exact ⟨_, _, _, _, _, p2, nx2, kd2, sy2, _, M', rfl, hK.set3 (.inr (Nat.le_refl _)), Box.same hB hk3 (by simp; omega), hM'.kp hk3 (by simpa using hb8.out), he', xgh_one X.out⟩
      · have h1b : ((ts.length : Int) == 1) = false := by rw [beq_eq_false_iff_ne]; omega
        have h1' := Hid.mk h1
        clear hsl hb8 hM' he' hB hK h1
        go_wp2_with (go_at_call 74; refine (TO.out _).mono ?_; rintro e w' ⟨rfl, rfl⟩)
        obtain ⟨hsl, hb8, hM', he', hB, hK⟩ := HA.out
        have hk3 := Kp.set3 (b := w.heap.size) (x' := .int .i64 (5)) (y' := .string ⟨#[]⟩) (z' := .slice (some ⟨g0, 0, none⟩) ts.length cap) (Kp.refl [w.heap.size] wr) (.inl (by simp))
        obtain ⟨⟨r0, r1, r2⟩, _, _, _⟩ := (hb8.set3 (x' := .int .i64 (5)) (y' := .string ⟨#[]⟩) (z' := .slice (some ⟨g0, 0, none⟩) ts.length cap)).three
        refine bodyPost_ret (v := .agg #[.int .i64 (5), .string ⟨#[]⟩, .slice (some ⟨g0, 0, none⟩) ts.length cap]) (by simp [results, Try.results49, go_sem, r0, r1, r2]) rfl ?_
        obtain ⟨M4, hx4, hM4, he4, hno⟩ := xgh_many X.out h1'.out hsl hM' (m := w.heap.size) (by omega)
        have hB4 := Box.same hB hk3 (by simp; omega)
        exact ⟨_, _, _, _, _, p2, nx2, kd2, sy2, _, M4, rfl, hK.set3 (.inr (Nat.le_refl _)), ⟨hB4.blk, hno _ (by omega) hB4.out⟩, hM4.kp hk3 (by simpa using hno _ (by omega) hb8.out), he'.trans he4 (Nat.le_refl _), hx4⟩
    | false =>
      by_cases hat : kd2 = 124
      · have hatb : (kd2 == 124) = true := by rw [hat]; rfl
        obtain ⟨kk, ps, r', z', rfl, rfl, hav, hT', ht, h6, h7, h8⟩ := all_more (by decide) (by decide) hG.out hat
        have hf' := Hid.mk (fun a r1 (e : z' = .ok (a, r1)) => lv_less h6 e)
        have H6 := Hid.mk h6
        have H8 := Hid.mk h8
        have HT' := Hid.mk hT'
        have Ht := Hid.mk ht
        have HAT := Hid.mk hat
        clear h6 h8 hT' hG ht hat
        rw [List.length_map] at hsl
        have hlt0 := hsl.lt
        have HA := Hid.mk (And.intro hsl (And.intro hb8 (And.intro hav (And.intro hM' (And.intro he' hK)))))
        have hlen' : ps.length ≤ 6001 := by rw [List.length_map] at hlen; omega
        clear hsl hb8 hav he' hK
        go_wp2_with fail
        refine (adv_calls hl HT'.out Ht.out HPB.out).mono ?_
        rintro e w2 ⟨p4, nx4, kd4, sy4, rfl, hk2, hB2, hT2⟩
        have HT2 := Hid.mk hT2
        have hM2 := hM'.kp hk2 (by simpa using hB2.out)
        clear hT2 hB hM'
        go_wp2_with (go_at_call 73; refine (TG.out _).mono ?_; rintro e w' ⟨rfl, rfl⟩)
        refine (hS kk (by omega) g l _ _ M' z' p4 nx4 kd4 sy4 HT2.out hB2 hM2 hl H6.out).mono ?_
        rintro e w3 ⟨o3, s3, A3, n3, c3, p3, nx3, kd3, sy3, bd3, M3, rfl, hk3, hB3, hM3, he3, hG3⟩
        clear hB2 hM2
        obtain ⟨hsl, hb8, hav, hM', he', hK⟩ := HA.out
        have hsl2 := hsl.same hk2 (by simp; omega)
        have hb82 := hb8.same hk2 (by simp; omega)
        have hsl3 := hsl2.kp hk3 (by simp; omega) he3 hsl2.lt
        have hb83 := hb82.kp hk3 (by simp; omega) he3 hb82.lt
        have hz3 := hsl3.lt
        have HA := Hid.mk (And.intro hsl3 (And.intro hb83 (And.intro hav (And.intro hM3 (And.intro he' (And.intro (he3.low hk2.size) (And.intro hK (And.intro (hk2.trans hk3) (And.intro hB3 hG3)))))))))
        clear hsl hb8 hav hM' he' hK hsl2 hb82 hsl3 hb83 hM3 he3 hk2 hk3 hB3 hG3
        have hbig : (ps.length + 1 ≤ maxLen) ∧ (ps.length + 1) * 48 ≤ 140737488355328 := by unfold maxLen; omega
        have HB := Hid.mk hbig
        clear hbig hlen hpos
        go_wp2_with (at_builtin; go_must (refine wpList_append_lies _ rfl (.tmp 30) (.tmp 35) 23 rfl 0 25 i0 _ 3 48 Try.underlying23 HI.out.1 HI.out.2.1 HI.out.2.2.1 HI.out.2.2.2 rfl (Nat.succ_pos 2) _ ps.length (raw (ps.map rt)) rfl (HA.out.1.alloc _).own ⟨w3.heap.size, 0, none⟩ 1 1 (raw [⟨o3, s3, A3, n3, c3⟩]) rfl rfl (raw_cells (heap_alloc_new _ _)) raw_one Nat.one_pos HB.out.1 HB.out.2 (Nat.zero_le _) (w3.heap.size + 1) (by simp) ?_); intro g1 cap1 w5 hown5 hgr5 hat5 hlt5)
        obtain ⟨hsl, hb8, hav, hM3, he', he3, hK, hk3, hB3, hG3⟩ := HA.out
        have hk5 := Kp.of_grown hgr5
        have hat' : (some g0 : Option Nat) = some g1 ∨ g1 = w3.heap.size + 1 := hat5
        clear hat5
        simp only [Option.some.injEq] at hat'
        have hlt8 := hb8.lt
        go_roundg kk
        case measure => omega
        case rel =>
          refine ⟨ps.map rt ++ [⟨o3, s3, A3, n3, c3⟩], M3, g1, cap1, p3, nx3, kd3, sy3, bd3, by omega, ?_, ⟨?_, ?_⟩, (hb8.alloc _).same hk5 (by simp; omega), (hM3.alloc _).kp hk5 (by simpa using hsl.out), he'.trans (he3.low hK.size) (Nat.le_refl _), Box.same (Box.alloc hB3 _) hk5 (by simp; omega), ?_, by simp, ?_, Hid.mk (lgh_more (by omega) hf'.out hav he3 hG3 H8.out)⟩
          · simp
          · rw [raw_append, List.length_append, List.length_map]; exact hown5
          · rcases hat' with h | h
            · rw [← h]; exact hsl.out
            · rw [h]; exact hM3.ge (by omega)
          · exact ((hK.trans hk3).alloc _).inner hk5 (by simp; omega)
          · omega
      · have hatb : (kd2 == 124) = false := by simpa using hat
        have HAT := Hid.mk hat
        clear hat
        have X := Hid.mk (all_over (by decide) (by decide) hG.out (.inr HAT.out))
        clear hG
        have HA := Hid.mk (And.intro hsl (And.intro hb8 (And.intro hM' (And.intro he' (And.intro hB hK)))))
        obtain ⟨⟨p0, p1, p2'⟩, f0', f1', f2'⟩ := hb8.three
        by_cases h1 : ts.length = 1
        · obtain ⟨t1, rfl⟩ : ∃ t, ts = [t] := by
            match ts, h1 with
            | [t], _ => exact ⟨t, rfl⟩
          have q0 := hsl.cell (j := 0) (v := .int .i64 t1.o) rfl
          have q1 := hsl.cell (j := 1) (v := .string t1.s) rfl
          have q2 := hsl.cell (j := 2) (v := .slice t1.A t1.n t1.c) rfl
          clear hsl hb8 hM' he' hB hK h1
          go_wp2_with fail
          obtain ⟨hsl, hb8, hM', he', hB, hK⟩ := HA.out
          have hk3 := Kp.set3 (b := w.heap.size) (x' := .int .i64 t1.o) (y' := .string t1.s) (z' := .slice t1.A t1.n t1.c) (Kp.refl [w.heap.size] wr) (.inl (by simp))
          obtain ⟨⟨r0, r1, r2⟩, _, _, _⟩ := (hb8.set3 (x' := .int .i64 t1.o) (y' := .string t1.s) (z' := .slice t1.A t1.n t1.c)).three
          refine bodyPost_ret (v := .agg #[.int .i64 t1.o, .string t1.s, .slice t1.A t1.n t1.c]) (by simp [results, Try.results49, go_sem, r0, r1, r2]) rfl ?_
          exact ⟨_, _, _, _, _, p2, nx2, kd2, sy2, _, M', rfl, hK.set3 (.inr (Nat.le_refl _)), Box.same hB hk3 (by simp; omega), hM'.kp hk3 (by simpa using hb8.out), he', xgh_one X.out⟩
        · have h1b : ((ts.length : Int) == 1) = false := by rw [beq_eq_false_iff_ne]; omega
          have h1' := Hid.mk h1
          clear hsl hb8 hM' he' hB hK h1
          go_wp2_with (go_at_call 74; refine (TO.out _).mono ?_; rintro e w' ⟨rfl, rfl⟩)
          obtain ⟨hsl, hb8, hM', he', hB, hK⟩ := HA.out
          have hk3 := Kp.set3 (b := w.heap.size) (x' := .int .i64 (5)) (y' := .string ⟨#[]⟩) (z' := .slice (some ⟨g0, 0, none⟩) ts.length cap) (Kp.refl [w.heap.size] wr) (.inl (by simp))
          obtain ⟨⟨r0, r1, r2⟩, _, _, _⟩ := (hb8.set3 (x' := .int .i64 (5)) (y' := .string ⟨#[]⟩) (z' := .slice (some ⟨g0, 0, none⟩) ts.length cap)).three
          refine bodyPost_ret (v := .agg #[.int .i64 (5), .string ⟨#[]⟩, .slice (some ⟨g0, 0, none⟩) ts.length cap]) (by simp [results, Try.results49, go_sem, r0, r1, r2]) rfl ?_
          obtain ⟨M4, hx4, hM4, he4, hno⟩ := xgh_many X.out h1'.out hsl hM' (m := w.heap.size) (by omega)
          have hB4 := Box.same hB hk3 (by simp; omega)
          exact ⟨_, _, _, _, _, p2, nx2, kd2, sy2, _, M4, rfl, hK.set3 (.inr (Nat.le_refl _)), ⟨hB4.blk, hno _ (by omega) hB4.out⟩, hM4.kp hk3 (by simpa using hno _ (by omega) hb8.out), he'.trans he4 (Nat.le_refl _), hx4⟩
set_option maxRecDepth 100000 in
set_option maxHeartbeats 4000000 in
theorem rlevel3 {k : Nat} (hS : ∀ k', k' ≤ k → RSpec 49 [.int .i64 37] 4 k') : RSpec 49 [.int .i64 38] 3 (k + 1) := by
  intro g l r w M x p nx kd sy hT hB hM hl hx
  simp only [G] at hx
  obtain ⟨z, h1, h2⟩ := bx_any hx
  clear hx
  obtain ⟨i0, hi, hz⟩ := Option.map_eq_some_iff.1 Try.infoE
  simp only [Prod.mk.injEq] at hz
  obtain ⟨hz0, hz1, hz2⟩ := hz
  have HI := Hid.mk (And.intro hi (And.intro hz0 (And.intro hz1 hz2)))
  clear hi hz0 hz1 hz2
  have TG : Hid (∀ w, Calls Try.prog 73 #[.int .i64 38] w fun e w' => e = .returned (.int .i64 37) ∧ w = w') := Hid.mk (fun w => tighter_calls 3 (by decide) w)
  have TO : Hid (∀ w, Calls Try.prog 74 #[.int .i64 38] w fun e w' => e = .returned (.int .i64 6) ∧ w = w') := Hid.mk (fun w => opOf_calls 3 (by decide) w)
  have hf := Hid.mk (fun a r1 (e : z = .ok (a, r1)) => lv_less h1 e)
  have H1 := Hid.mk h1
  have H2 := Hid.mk h2
  have HT := Hid.mk hT
  have hgw : g < w.heap.size := Box.lt hB
  clear h1 h2 hT
  show Calls Try.prog 49 #[.pointer (some ⟨g, 0, none⟩), .int .i64 38] w (REnd w M g l x)
  go_enter Try.func49, Try.ntmps49
  go_wp2_with (go_at_call 73; refine (TG.out _).mono ?_; rintro e w' ⟨rfl, rfl⟩)
  refine (hS k (Nat.le_refl _) g l r _ M z p nx kd sy HT.out (Box.alloc hB _) (hM.alloc _) hl H1.out).mono ?_
  rintro e w1 ⟨o1, s1, A1, n1, c1, p1, nx1, kd1, sy1, bd1, M1, rfl, hk1, hB1, hM1, he1, hG1⟩
  have hsz : w.heap.size < w1.heap.size := by have := hk1.size; simp at this; omega
  have hb8 : Box w1 M1 w.heap.size #[.int .i64 0, .string ⟨#[]⟩, .slice none 0 0] 25 := (Box.new hM _ _).kp hk1 (by simp; omega) he1 (by simp)
  go_wp2_with fail
  go_loopg [5] k (fun kk v3 wr => ∃ ts M' g0 cap p nx kd sy bd, kk ≤ k ∧ v3 = .slice (some ⟨g0, 0, none⟩) ts.length cap ∧ Sl wr M' 25 3 g0 ts.length cap (raw ts) ∧ Box wr M' w.heap.size #[.int .i64 0, .string ⟨#[]⟩, .slice none 0 0] 25 ∧ Mem wr M' ∧ Ext w.heap.size M M' ∧ PB wr M' g l p nx kd sy bd ∧ Kp [g] w wr ∧ 0 < ts.length ∧ w.heap.size < g0 ∧ Hid (LGh M' l x kk (.all 3) ts p nx kd sy bd))
  case atStart =>
    refine ⟨[⟨o1, s1, A1, n1, c1⟩], M1, w1.heap.size, 1, p1, nx1, kd1, sy1, bd1, Nat.le_refl _, rfl, ?_, hb8.alloc _, hM1.alloc _, he1.low (by simp), Box.alloc hB1 _, ?_, by simp, hsz, Hid.mk ?_⟩
    · exact Sl.lit (heap_alloc_new _ _) hM1.new rfl (by unfold maxLen; simp)
    · exact (((Kp.refl _ _).alloc _).trans hk1).alloc _
    · exact lgh_first HT.out.1 hf.out hG1 H2.out
  case round =>
    obtain ⟨ts, M', g0, cap, p2, nx2, kd2, sy2, bd2, hkk, rfl, hsl, hb8', hM', he', hB', hK, hpos, hg0, hG⟩ := hrel
    clear hb8 hM1 he1 hB1 hk1 hG1 hB hM
    have hb8 := hb8'
    have hB := hB'
    clear hb8' hB'
    obtain ⟨⟨c0, c1, c2, c3, c4, c5⟩, f1, f2, f3, f4, f5⟩ := PB.cells hB
    clear c0 c1 c2 c4 f1 f2 f3 f4 f5
    have HPB := Hid.mk hB
    have hlen := hG.out.len
    cases bd2 with
    | true =>
      have X := Hid.mk (all_over (by decide) (by decide) hG.out (.inl rfl))
      clear hG
      have HA := Hid.mk (And.intro hsl (And.intro hb8 (And.intro hM' (And.intro he' (And.intro hB hK)))))
      obtain ⟨⟨p0, p1, p2'⟩, f0', f1', f2'⟩ := hb8.three
      by_cases h1 : ts.length = 1
      · obtain ⟨t1, rfl⟩ : ∃ t, ts = [t] := by
          match ts, h1 with
          | [t], _ => exact ⟨t, rfl⟩
        have q0 := hsl.cell (j := 0) (v := .int .i64 t1.o) rfl
        have q1 := hsl.cell (j := 1) (v := .string t1.s) rfl
        have q2 := hsl.cell (j := 2) (v := .slice t1.A t1.n t1.c) rfl
        clear hsl hb8 hM' he' hB hK h1
        go_wp2_with fail
        obtain ⟨hsl, hb8, hM', he', hB, hK⟩ := HA.out
        have hk3 := Kp.set3 (b := w.heap.size) (x' := .int .i64 t1.o) (y' := .string t1.s) (z' := .slice t1.A t1.n t1.c) (Kp.refl [w.heap.size] wr) (.inl (by simp))
        obtain ⟨⟨r0, r1, r2⟩, _, _, _⟩ := (hb8.set3 (x' := .int .i64 t1.o) (y' := .string t1.s) (z' := .slice t1.A t1.n t1.c)).three
        refine bodyPost_ret (v := .agg #[.int .i64 t1.o, .string t1.s, .slice t1.A t1.n t1.c]) (by simp [results, Try.results49, go_sem, r0, r1, r2]) rfl ?_
        exact ⟨_, _, _, _, _, p2, nx2, kd2, sy2, _, M', rfl, hK.set3 (.inr (Nat.le_refl _)), Box.same hB hk3 (by simp; omega), hM'.kp hk3 (by simpa using hb8.out), he', xgh_one X.out⟩
      · have h1b : ((ts.length : Int) == 1) = false := by rw [beq_eq_false_iff_ne]; omega
        have h1' := Hid.mk h1
        clear hsl hb8 hM' he' hB hK h1
        go_wp2_with (go_at_call 74; refine (TO.out _).mono ?_; rintro e w' ⟨rfl, rfl⟩)
        obtain ⟨hsl, hb8, hM', he', hB, hK⟩ := HA.out
        have hk3 := Kp.set3 (b := w.heap.size) (x' := .int .i64 (6)) (y' := .string ⟨#[]⟩) (z' := .slice (some ⟨g0, 0, none⟩) ts.length cap) (Kp.refl [w.heap.size] wr) (.inl (by simp))
        obtain ⟨⟨r0, r1, r2⟩, _, _, _⟩ := (hb8.set3 (x' := .int .i64 (6)) (y' := .string ⟨#[]⟩) (z' := .slice (some ⟨g0, 0, none⟩) ts.length cap)).three
        refine bodyPost_ret (v := .agg #[.int .i64 (6), .string ⟨#[]⟩, .slice (some ⟨g0, 0, none⟩) ts.length cap]) (by simp [results, Try.results49, go_sem, r0, r1, r2]) rfl ?_
        obtain ⟨M4, hx4, hM4, he4, hno⟩ := xgh_many X.out h1'.out hsl hM' (m := w.heap.size) (by omega)
        have hB4 := Box.same hB hk3 (by simp; omega)
        exact ⟨_, _, _, _, _, p2, nx2, kd2, sy2, _, M4, rfl, hK.set3 (.inr (Nat.le_refl _)), ⟨hB4.blk, hno _ (by omega) hB4.out⟩, hM4.kp hk3 (by simpa using hno _ (by omega) hb8.out), he'.trans he4 (Nat.le_refl _), hx4⟩
    | false =>
      by_cases hat : kd2 = 38
      · have hatb : (kd2 == 38) = true := by rw [hat]; rfl
        obtain ⟨kk, ps, r', z', rfl, rfl, hav, hT', ht, h6, h7, h8⟩ := all_more (by decide) (by decide) hG.out hat
        have hf' := Hid.mk (fun a r1 (e : z' = .ok (a, r1)) => lv_less h6 e)
        have H6 := Hid.mk h6
        have H8 := Hid.mk h8
        have HT' := Hid.mk hT'
        have Ht := Hid.mk ht
        have HAT := Hid.mk hat
        clear h6 h8 hT' hG ht hat
        rw [List.length_map] at hsl
        have hlt0 := hsl.lt
        have HA := Hid.mk (And.intro hsl (And.intro hb8 (And.intro hav (And.intro hM' (And.intro he' hK)))))
        have hlen' : ps.length ≤ 6001 := by rw [List.length_map] at hlen; omega
        clear hsl hb8 hav he' hK
        go_wp2_with fail
        refine (adv_calls hl HT'.out Ht.out HPB.out).mono ?_
        rintro e w2 ⟨p4, nx4, kd4, sy4, rfl, hk2, hB2, hT2⟩
        have HT2 := Hid.mk hT2
        have hM2 := hM'.kp hk2 (by simpa using hB2.out)
        clear hT2 hB hM'
        go_wp2_with (go_at_call 73; refine (TG.out _).mono ?_; rintro e w' ⟨rfl, rfl⟩)
        refine (hS kk (by omega) g l _ _ M' z' p4 nx4 kd4 sy4 HT2.out hB2 hM2 hl H6.out).mono ?_
        rintro e w3 ⟨o3, s3, A3, n3, c3, p3, nx3, kd3, sy3, bd3, M3, rfl, hk3, hB3, hM3, he3, hG3⟩
        clear hB2 hM2
        obtain ⟨hsl, hb8, hav, hM', he', hK⟩ := HA.out
        have hsl2 := hsl.same hk2 (by simp; omega)
        have hb82 := hb8.same hk2 (by simp; omega)
        have hsl3 := hsl2.kp hk3 (by simp; omega) he3 hsl2.lt
        have hb83 := hb82.kp hk3 (by simp; omega) he3 hb82.lt
        have hz3 := hsl3.lt
        have HA := Hid.mk (And.intro hsl3 (And.intro hb83 (And.intro hav (And.intro hM3 (And.intro he' (And.intro (he3.low hk2.size) (And.intro hK (And.intro (hk2.trans hk3) (And.intro hB3 hG3)))))))))
        clear hsl hb8 hav hM' he' hK hsl2 hb82 hsl3 hb83 hM3 he3 hk2 hk3 hB3 hG3
        have hbig : (ps.length + 1 ≤ maxLen) ∧ (ps.length + 1) * 48 ≤ 140737488355328 := by unfold maxLen; omega
        have HB := Hid.mk hbig
        clear hbig hlen hpos
        go_wp2_with (at_builtin; go_must (refine wpList_append_lies _ rfl (.tmp 30) (.tmp 35) 23 rfl 0 25 i0 _ 3 48 Try.underlying23 HI.out.1 HI.out.2.1 HI.out.2.2.1 HI.out.2.2.2 rfl (Nat.succ_pos 2) _ ps.length (raw (ps.map rt)) rfl (HA.out.1.alloc _).own ⟨w3.heap.size, 0, none⟩ 1 1 (raw [⟨o3, s3, A3, n3, c3⟩]) rfl rfl (raw_cells (heap_alloc_new _ _)) raw_one Nat.one_pos HB.out.1 HB.out.2 (Nat.zero_le _) (w3.heap.size + 1) (by simp) ?_); intro g1 cap1 w5 hown5 hgr5 hat5 hlt5)
        obtain ⟨hsl, hb8, hav, hM3, he', he3, hK, hk3, hB3, hG3⟩ := HA.out
        have hk5 := Kp.of_grown hgr5
        have hat' : (some g0 : Option Nat) = some g1 ∨ g1 = w3.heap.size + 1 := hat5
        clear hat5
        simp only [Option.some.injEq] at hat'
        have hlt8 := hb8.lt
        go_roundg kk
        case measure => omega
        case rel =>
          refine ⟨ps.map rt ++ [⟨o3, s3, A3, n3, c3⟩], M3, g1, cap1, p3, nx3, kd3, sy3, bd3, by omega, ?_, ⟨?_, ?_⟩, (hb8.alloc _).same hk5 (by simp; omega), (hM3.alloc _).kp hk5 (by simpa using hsl.out), he'.trans (he3.low hK.size) (Nat.le_refl _), Box.same (Box.alloc hB3 _) hk5 (by simp; omega), ?_, by simp, ?_, Hid.mk (lgh_more (by omega) hf'.out hav he3 hG3 H8.out)⟩
          · simp
          · rw [raw_append, List.length_append, List.length_map]; exact hown5
          · rcases hat' with h | h
            · rw [← h]; exact hsl.out
            · rw [h]; exact hM3.ge (by omega)
          · exact ((hK.trans hk3).alloc _).inner hk5 (by simp; omega)
          · omega
      · have hatb : (kd2 == 38) = false := by simpa using hat
        have HAT := Hid.mk hat
        clear hat
        have X := Hid.mk (all_over (by decide) (by decide) hG.out (.inr HAT.out))
        clear hG
        have HA := Hid.mk (And.intro hsl (And.intro hb8 (And.intro hM' (And.intro he' (And.intro hB hK)))))
        obtain ⟨⟨p0, p1, p2'⟩, f0', f1', f2'⟩ := hb8.three
        by_cases h1 : ts.length = 1
        · obtain ⟨t1, rfl⟩ : ∃ t, ts = [t] := by
            match ts, h1 with
            | [t], _ => exact ⟨t, rfl⟩
          have q0 := hsl.cell (j := 0) (v := .int .i64 t1.o) rfl
          have q1 := hsl.cell (j := 1) (v := .string t1.s) rfl
          have q2 := hsl.cell (j := 2) (v := .slice t1.A t1.n t1.c) rfl
          clear hsl hb8 hM' he' hB hK h1
          go_wp2_with fail
          obtain ⟨hsl, hb8, hM', he', hB, hK⟩ := HA.out
          have hk3 := Kp.set3 (b := w.heap.size) (x' := .int .i64 t1.o) (y' := .string t1.s) (z' := .slice t1.A t1.n t1.c) (Kp.refl [w.heap.size] wr) (.inl (by simp))
          obtain ⟨⟨r0, r1, r2⟩, _, _, _⟩ := (hb8.set3 (x' := .int .i64 t1.o) (y' := .string t1.s) (z' := .slice t1.A t1.n t1.c)).three
          refine bodyPost_ret (v := .agg #[.int .i64 t1.o, .string t1.s, .slice t1.A t1.n t1.c]) (by simp [results, Try.results49, go_sem, r0, r1, r2]) rfl ?_
          exact ⟨_, _, _, _, _, p2, nx2, kd2, sy2, _, M', rfl, hK.set3 (.inr (Nat.le_refl _)), Box.same hB hk3 (by simp; omega), hM'.kp hk3 (by simpa using hb8.out), he', xgh_one X.out⟩
        · have h1b : ((ts.length : Int) == 1) = false := by rw [beq_eq_false_iff_ne]; omega
          have h1' := Hid.mk h1
          clear hsl hb8 hM' he' hB hK h1
          go_wp2_with (go_at_call 74; refine (TO.out _).mono ?_; rintro e w' ⟨rfl, rfl⟩)
          obtain ⟨hsl, hb8, hM', he', hB, hK⟩ := HA.out
          have hk3 := Kp.set3 (b := w.heap.size) (x' := .int .i64 (6)) (y' := .string ⟨#[]⟩) (z' := .slice (some ⟨g0, 0, none⟩) ts.length cap) (Kp.refl [w.heap.size] wr) (.inl (by simp))
          obtain ⟨⟨r0, r1, r2⟩, _, _, _⟩ := (hb8.set3 (x' := .int .i64 (6)) (y' := .string ⟨#[]⟩) (z' := .slice (some ⟨g0, 0, none⟩) ts.length cap)).three
          refine bodyPost_ret (v := .agg #[.int .i64 (6), .string ⟨#[]⟩, .slice (some ⟨g0, 0, none⟩) ts.length cap]) (by simp [results, Try.results49, go_sem, r0, r1, r2]) rfl ?_
          obtain ⟨M4, hx4, hM4, he4, hno⟩ := xgh_many X.out h1'.out hsl hM' (m := w.heap.size) (by omega)
          have hB4 := Box.same hB hk3 (by simp; omega)
          exact ⟨_, _, _, _, _, p2, nx2, kd2, sy2, _, M4, rfl, hK.set3 (.inr (Nat.le_refl _)), ⟨hB4.blk, hno _ (by omega) hB4.out⟩, hM4.kp hk3 (by simpa using hno _ (by omega) hb8.out), he'.trans he4 (Nat.le_refl _), hx4⟩
end Go.Proofs.Ytgdnhlckodhhgaa
