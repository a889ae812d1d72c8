/-
  The asker: a word cut into two rows (shuffle).
-/
import Derived.Test.YtgdnhlckodhhgaaGreatDoorJH8
import Derived.Test.YtgdnhlckodhhgaaGreatDoorJVC
namespace Go.Proofs.YtgdnhlckodhhgaaGreatDoor
open Go.RowKit
set_option linter.unusedVariables false
set_option linter.unusedSimpArgs false
theorem rowB_shuf {p q : Bs → Bool} {m : Nat} {w : Bs} {xa xb : Bs} {rs : List Bs} (h : cutTo m w w.length = ⟨xa, xb, rs⟩) : rowB 15 p q m w = (p xa && q xb) := by
  simp [rowB, h]
set_option maxRecDepth 100000 in
set_option maxHeartbeats 16000000 in
theorem rows15_calls {M : Heap} {ga gm b b0 b1 c o bb L : Nat} (hL : L ≤ 10) {V : Nat → Bs → Bool} {num : Nat} {s : Bs} {n0 n1 : Nd} (hb : M b = some (.cells #[.int .i64 (num : Nat), .int .i64 15, .string (bs s), .slice (some ⟨bb, o, none⟩) 2 c] 118 (0, 0)))
    (h0 : cellM M ⟨bb, o, none⟩ = some (.pointer (some ⟨b0, 0, none⟩))) (h1 : cellM M ⟨bb, o + 1, none⟩ = some (.pointer (some ⟨b1, 0, none⟩)))
    (hs0 : HSp 38 M ga gm V n0 b0 L) (hs1 : HSp 38 M ga gm V n1 b1 L) (u : Bs) (w : World) (huL : u.length ≤ L) (hM : Mem w M) (hA : As w M ga gm V) :
    Calls Tryz.prog 123 #[.pointer (some ⟨ga, 0, none⟩), .pointer (some ⟨b, 0, none⟩), .string (bs u)] w (HE M ga gm V w (rowsB 15 (ev n0) (ev n1) u)) := by
  have hz := bs_size u
  have hu : u.length ≤ 10 := by omega
  obtain ⟨hga, hgm⟩ := hA.lt
  obtain ⟨N, hN⟩ : ∃ N : Nat, N = 2 ^ u.length := ⟨_, rfl⟩
  have hNi : (2 : Int) ^ u.length = (N : Int) := by rw [hN]; simp
  have hN1 : N ≤ 1024 := by rw [hN]; exact Nat.pow_le_pow_right (by omega) hu
  have HN := Hid.mk hN
  obtain ⟨i0, hi, hzz⟩ := Option.map_eq_some_iff.1 Tryz.infoS
  simp only [Prod.mk.injEq] at hzz
  obtain ⟨hz0, hz1, hz2⟩ := hzz
  have HI := Hid.mk (And.intro hi (And.intro hz0 (And.intro hz1 hz2)))
  have hcb1 : cellM M ⟨b, 1, none⟩ = some (.int .i64 15) := by simp [cellM, hb]
  have hcb : cellM M ⟨b, 3, none⟩ = some (.slice (some ⟨bb, o, none⟩) 2 c) := by simp [cellM, hb]
  obtain ⟨hx0, hx1⟩ := two_boxesH hM #[.pointer (some ⟨ga, 0, none⟩)] #[.pointer (some ⟨b, 0, none⟩)] 64 67
  have HB := Hid.mk hb
  have HX := Hid.mk (And.intro hx0 hx1)
  have H0 := Hid.mk h0
  have H1 := Hid.mk h1
  have HCB := Hid.mk (And.intro hcb1 hcb)
  clear hN hi hz0 hz1 hz2 hb hx0 hx1 h0 h1 hcb1 hcb
  go_enter Tryz.func123, Tryz.ntmps123
  go_wp2_with fail
  go_loopg [16] N (fun kk v wr => ∃ m : Nat, m ≤ N ∧ kk = N - m ∧ v = .int .i64 (m : Nat) ∧ Hid (∀ m', m' < m → rowB 15 (ev n0) (ev n1) m' u = false) ∧ Box wr M w.heap.size #[.pointer (some ⟨ga, 0, none⟩)] 64 ∧ Box wr M (w.heap.size + 1) #[.pointer (some ⟨b, 0, none⟩)] 67 ∧ Mem wr M ∧ As wr M ga gm V ∧ Kp [gm] w wr)
  case atStart => exact ⟨0, Nat.zero_le _, by simp, rfl, Hid.mk (fun _ h => by omega), HX.out.1, HX.out.2, (hM.alloc _).alloc _, (hA.alloc _).alloc _, ((Kp.refl _ _).alloc _).alloc _⟩
  case round =>
    obtain ⟨m, hm, hkk, rfl, HNO, hb59, hb62, hM', hA', hK⟩ := hrel
    by_cases hlt : m < N
    · have hlb := hb62.lt
      have HH := Hid.mk (And.intro hb59 (And.intro hb62 (And.intro hM' (And.intro hA' hK))))
      clear hb59 hb62 hM' hA' hK
      go_wp2_with fail
      have hsl0 : Sl (wr.alloc (.cells #[.string ⟨#[]⟩] 9)) M 9 1 wr.heap.size 1 1 (strs [[]]) := Sl.lit (heap_alloc_new _ _) HH.out.2.2.1.new rfl (by unfold maxLen; simp)
      generalize hgs : wr.heap.size = gs at *
      clear hgs
      have HS0 := Hid.mk hsl0
      clear hsl0
      go_loopg [8, 9, 10, 22] u.length (fun kk v8 v9 v10 v wy => ∃ (i g0 cap : Nat) (xa xb : Bs) (is : List Bs) (lr : Bs), i ≤ u.length ∧ kk = u.length - i ∧ v = .int .i64 (i : Nat) ∧ v8 = .string (bs xa) ∧ v9 = .string (bs xb) ∧ v10 = .slice (some ⟨g0, 0, none⟩) (is.length + 1) cap ∧ Hid (cutTo m u i = ⟨xa, xb, is ++ [lr]⟩) ∧ Hid (RI M ga gm b V w g0 (is.length + 1) cap (is ++ [lr]) wy))
      case atStart =>
        refine ⟨0, gs, 1, [], [], [], [], Nat.zero_le _, by simp, rfl, rfl, rfl, rfl, Hid.mk rfl, Hid.mk ⟨HH.out.1.alloc _, HH.out.2.1.alloc _, HH.out.2.2.1.alloc _, HH.out.2.2.2.1.alloc _, HH.out.2.2.2.2.alloc _, HS0.out, hlb⟩⟩
      case round =>
        clear HH HS0
        obtain ⟨i, g0, cap, xa, xb, is, lr, hi, hkk2, rfl, rfl, rfl, rfl, HC, HR⟩ := hrel
        have hok := cutTo_ok m u i
        rw [HC.out] at hok
        obtain ⟨hl1, ⟨is', lr', hl2, hl3⟩, hl4⟩ := hok
        have hl5 : is.length = xa.length := by
          have := congrArg List.length hl2
          simp only [List.length_append, List.length_singleton] at this
          simp only at hl3; omega
        have hl6 : lr.length ≤ i := hl4 lr (by simp)
        simp only at hl1
        have hl7 : is.length ≤ 10 := by omega
        have HL5 := Hid.mk hl5
        clear hl2 hl3 hl5
        have HL4 := Hid.mk hl4
        clear hl4
        have hza := bs_size xa
        have hzb := bs_size xb
        have hzl := bs_size lr
        by_cases hin : i < u.length
        · have hbit := bit_is m i (by omega)
          have hone := part_one hin
          have hstep : cutTo m u (i + 1) = cutAdd m i (u.getD i 0) ⟨xa, xb, is ++ [lr]⟩ := by rw [cutTo, HC.out]
          generalize u.getD i 0 = c0 at hone hstep
          have hext : (bs u).extract i (i + 1) = bs [c0] := by rw [bs_extract, hone]
          have hzc := bs_size [c0]
          have hca := bs_cat xa [c0]
          have hcb := bs_cat xb [c0]
          have hcl := bs_cat lr [c0]
          by_cases hd : (m >>> i) % 2 = 0
          · rw [hd] at hbit
            rw [cut_zero hd] at hstep
            have HST := Hid.mk hstep
            have hbig : (is.length + 1 + 1 ≤ maxLen) ∧ (is.length + 1 + 1) * 16 ≤ 140737488355328 := by unfold maxLen; omega
            have HBG := Hid.mk hbig
            clear hstep hone hd hbig
            go_wp2_with (at_builtin; go_must (refine wpList_append_lies _ rfl (.tmp 37) (.tmp 38) 25 rfl 0 9 i0 _ 1 16 Tryz.underlying25 HI.out.1 HI.out.2.1 HI.out.2.2.1 HI.out.2.2.2 rfl (Nat.succ_pos 0) _ (is.length + 1) (strs (is ++ [lr])) rfl (HR.out.2.2.2.2.2.1.alloc _).own ⟨wr.heap.size, 0, none⟩ 1 1 [.string ⟨#[]⟩] rfl rfl (str_cells (heap_alloc_new _ _)) str_one Nat.one_pos HBG.out.1 HBG.out.2 (Nat.zero_le _) (wr.heap.size + 1) (by simp) ?_); intro g1 cap1 w5 hown5 hgr5 hat5 hlt5)
            have hk5 := Kp.of_grown hgr5
            have hat' : (some g0 : Option Nat) = some g1 ∨ g1 = wr.heap.size + 1 := hat5
            clear hat5
            simp only [Option.some.injEq] at hat'
            obtain ⟨r1, r2, r3, r4, r5, r6, r7⟩ := HR.out
            have hlt6 := r6.lt
            have hlt1 := r2.lt
            go_roundg (u.length - (i + 1))
            case measure => omega
            case rel =>
              refine ⟨i + 1, g1, cap1, xa ++ [c0], xb, is ++ [lr], [], by omega, rfl, by go_num, rfl, rfl, by simp, Hid.mk HST.out, Hid.mk ⟨(r1.alloc _).same hk5 (by simp; omega), (r2.alloc _).same hk5 (by simp; omega), (r3.alloc _).kp hk5 (by simpa using r6.out), (r4.alloc _).kp hk5 (by simp; omega) (by simp; omega), (r5.alloc _).inner hk5 (by simp; omega), ⟨?_, ?_⟩, ?_⟩⟩
              · have e : strs (is ++ [lr] ++ [[]]) = strs (is ++ [lr]) ++ [.string ⟨#[]⟩] := by simp [strs]; rfl
                rw [e, List.length_append, List.length_singleton]
                exact hown5
              · rcases hat' with h | h
                · rw [← h]; exact r6.out
                · rw [h]; exact r3.ge (by omega)
              · omega
          · have hd1 : (m >>> i) % 2 = 1 := by omega
            rw [hd1] at hbit
            rw [cut_one hd] at hstep
            have HST := Hid.mk hstep
            have q := HR.out.2.2.2.2.2.1.cell (j := is.length) (v := .string (bs lr)) (by simp [strs])
            have fz := sl_free (k := is.length) HR.out.2.2.2.2.2.1
            clear hstep hone hd hd1
            go_wp2_with fail
            go_region
            go_wp2_with fail
            obtain ⟨r1, r2, r3, r4, r5, r6, r7⟩ := HR.out
            have hks : Kp [g0] wr (wr.setCell ⟨g0, is.length, none⟩ (.string (bs (lr ++ [c0])))).drew := ((Kp.refl [g0] wr).setCell (.inl (by simp)) _).drew
            have hlt6 := r6.lt
            go_roundg (u.length - (i + 1))
            case measure => omega
            case rel =>
              refine ⟨i + 1, g0, cap, xa, xb ++ [c0], is, lr ++ [c0], by omega, rfl, by go_num, rfl, rfl, rfl, Hid.mk HST.out, Hid.mk ⟨r1.same hks (by simp; omega), r2.same hks (by simp; omega), r3.kp hks (by simpa using r6.out), r4.kp hks (by simp; omega) (by simp; omega), r5.inner hks (by simp; omega), ?_, r7⟩⟩
              have h := (sl_set (k := is.length) (v := .string (bs (lr ++ [c0]))) r6 (by omega)).same ((Kp.refl [] _).drew) (by simp)
              have e : (strs (is ++ [lr])).set is.length (.string (bs (lr ++ [c0]))) = strs (is ++ [lr ++ [c0]]) := by simp [strs]
              rw [e] at h
              exact h
        · obtain rfl : i = u.length := by omega
          have hnlt : ¬ ((u.length : Int) < (u.length : Int)) := by omega
          have HRB := Hid.mk (rowB_shuf (p := ev n0) (q := ev n1) HC.out)
          have q0 : wr.cell? ⟨w.heap.size, 0, none⟩ = some (.pointer (some ⟨ga, 0, none⟩)) := HR.out.1.cell 0
          have q1 : wr.cell? ⟨w.heap.size + 1, 0, none⟩ = some (.pointer (some ⟨b, 0, none⟩)) := HR.out.2.1.cell 0
          have q2 := HR.out.2.2.1.cell HCB.out.2
          have q3 := HR.out.2.2.1.cell H0.out
          cases hr : ev n0 xa with
          | false =>
            have HRR := Hid.mk hr
            go_wp2_with fail
            go_region_held3 (fun w' => w'.cell? ⟨w.heap.size, 0, none⟩ = some (.pointer (some ⟨ga, 0, none⟩)) ∧ w'.cell? ⟨w.heap.size + 1, 0, none⟩ = some (.pointer (some ⟨b, 0, none⟩)) ∧ w'.cell? ⟨b, 3, none⟩ = some (.slice (some ⟨bb, o, none⟩) 2 c) ∧ w'.cell? ⟨bb, o, none⟩ = some (.pointer (some ⟨b0, 0, none⟩))) (go_keep) (first | (go_at_call 38; refine (hs0 xa wr.drew (by omega) HR.out.2.2.1.drew (HR.out.drew hgm).2.2.2.1).mono ?_; rintro e w2 ⟨rfl, hM2, hA2, hk2⟩; have HZ := Hid.mk ((HR.out.drew hgm).turn hgm hM2 hA2 hk2); have z0 : w2.cell? ⟨w.heap.size, 0, none⟩ = some (.pointer (some ⟨ga, 0, none⟩)) := HZ.out.1.cell 0; have z1 : w2.cell? ⟨w.heap.size + 1, 0, none⟩ = some (.pointer (some ⟨b, 0, none⟩)) := HZ.out.2.1.cell 0; have z2 := HZ.out.2.2.1.cell HCB.out.2; have z3 := HZ.out.2.2.1.cell H0.out; clear hM2 hA2 hk2))
            go_wp2_with fail
            go_roundg (N - (m + 1))
            case measure => omega
            case rel =>
              refine ⟨m + 1, by omega, rfl, by go_num, Hid.mk (fun m' hm' => ?_), HZ.out.1, HZ.out.2.1, HZ.out.2.2.1, HZ.out.2.2.2.1, HZ.out.2.2.2.2.1⟩
              rcases Nat.lt_or_ge m' m with h | h
              · exact HNO.out m' h
              · obtain rfl : m' = m := by omega
                rw [HRB.out, HRR.out]; rfl
          | true =>
            have HRR := Hid.mk hr
            go_wp2_with fail
            go_region_held3 (fun w' => w'.cell? ⟨w.heap.size, 0, none⟩ = some (.pointer (some ⟨ga, 0, none⟩)) ∧ w'.cell? ⟨w.heap.size + 1, 0, none⟩ = some (.pointer (some ⟨b, 0, none⟩)) ∧ w'.cell? ⟨b, 3, none⟩ = some (.slice (some ⟨bb, o, none⟩) 2 c) ∧ w'.cell? ⟨bb, o, none⟩ = some (.pointer (some ⟨b0, 0, none⟩))) (go_keep) (first | (go_at_call 38; refine (hs0 xa wr.drew (by omega) HR.out.2.2.1.drew (HR.out.drew hgm).2.2.2.1).mono ?_; rintro e w2 ⟨rfl, hM2, hA2, hk2⟩; have HZ := Hid.mk ((HR.out.drew hgm).turn hgm hM2 hA2 hk2); have z0 : w2.cell? ⟨w.heap.size, 0, none⟩ = some (.pointer (some ⟨ga, 0, none⟩)) := HZ.out.1.cell 0; have z1 : w2.cell? ⟨w.heap.size + 1, 0, none⟩ = some (.pointer (some ⟨b, 0, none⟩)) := HZ.out.2.1.cell 0; have z2 := HZ.out.2.2.1.cell HCB.out.2; have z3 := HZ.out.2.2.1.cell H0.out; clear hM2 hA2 hk2))
            have z4 := HZ.out.2.2.1.cell HCB.out.1
            go_wp2_with fail
            have hxb : xb.length ≤ L := by omega
            obtain ⟨τ, W, x0, hx0, hC, hin⟩ := class_of (RI M ga gm b V w g0 (is.length + 1) cap (is ++ [lr])) (w := w2.drew) (HZ.out.drew hgm)
            have hne : Nonempty τ := ⟨x0⟩
            have HCC := Hid.mk hC
            have HIN := Hid.mk hin
            have HX0 := Hid.mk hx0
            clear hC hin hx0
            have c0 : ∀ x, (W x).cell? ⟨w.heap.size, 0, none⟩ = some (.pointer (some ⟨ga, 0, none⟩)) := fun x => (HCC.out x).1.cell 0
            have c1 : ∀ x, (W x).cell? ⟨w.heap.size + 1, 0, none⟩ = some (.pointer (some ⟨b, 0, none⟩)) := fun x => (HCC.out x).2.1.cell 0
            have c2 := fun x => (HCC.out x).2.2.1.cell HCB.out.1
            have c3 := fun x => (HCC.out x).2.2.1.cell HCB.out.2
            have c4 := fun x => (HCC.out x).2.2.1.cell H1.out
            have HP := Hid.mk (fun x => (hs1 xb (W x) hxb (HCC.out x).2.2.1 (HCC.out x).2.2.2.1).mono (R' := fun e w' => e = .returned (.bool (ev n1 xb)) ∧ ∃ x, w' = W x) (by rintro e w5 ⟨rfl, hM5, hA5, hk5⟩; exact ⟨rfl, HIN.out _ ((HCC.out x).turn hgm hM5 hA5 hk5)⟩))
            clear hxb
            cases ha : ev n1 xb with
            | true =>
              have HX := Hid.mk (rowsB_yes (op := 15) (p := ev n0) (q := ev n1) (w := u) (m := m) (by rw [← HN.out]; exact hlt) (by rw [HRB.out, HRR.out, ha]; rfl))
              rw [ha] at HP
              clear ha
              go_upto_region 16 with fail
              refine wp_region_cls W x0 HX0.out (by kernel_rfl) (by kernel_rfl) ?_
              repeat (go_big_quiet_step (first | (go_at_call 38; exact HP.out _) | fail))
              refine wpQuiet_nil ?_
              rintro _ ⟨x, rfl⟩
              have HI5 := Hid.mk (HCC.out x)
              clear HCC HIN HX0 HP c0 c1 c2 c3 c4 hne z0 z1 z2 z3 z4
              go_wp2_with fail
              go_ret
              exact ⟨ret_bool HX.out.symm, HI5.out.2.2.1, HI5.out.2.2.2.1, HI5.out.2.2.2.2.1⟩
            | false =>
              have HAA := Hid.mk ha
              rw [ha] at HP
              clear ha
              go_upto_region 16 with fail
              refine wp_region_cls W x0 HX0.out (by kernel_rfl) (by kernel_rfl) ?_
              repeat (go_big_quiet_step (first | (go_at_call 38; exact HP.out _) | fail))
              refine wpQuiet_nil ?_
              rintro _ ⟨x, rfl⟩
              have HI5 := Hid.mk (HCC.out x)
              have y0 := c0 x
              have y1 := c1 x
              have y2 := c2 x
              clear HCC HIN HX0 HP c0 c1 c2 c3 c4 hne z0 z1 z2 z3 z4
              go_wp2_with fail
              go_roundg (N - (m + 1))
              case measure => omega
              case rel =>
                refine ⟨m + 1, by omega, rfl, by go_num, Hid.mk (fun m' hm' => ?_), HI5.out.1, HI5.out.2.1, HI5.out.2.2.1, HI5.out.2.2.2.1, HI5.out.2.2.2.2.1⟩
                rcases Nat.lt_or_ge m' m with h | h
                · exact HNO.out m' h
                · obtain rfl : m' = m := by omega
                  rw [HRB.out, HRR.out, HAA.out]; rfl
    · obtain rfl : m = N := by omega
      have hno := HNO.out
      rw [HN.out] at hno
      have HX := Hid.mk (rowsB_no hno)
      clear hno
      go_wp2_with fail
      go_ret
      exact ⟨ret_bool HX.out.symm, hM', hA', hK⟩
end Go.Proofs.YtgdnhlckodhhgaaGreatDoor

/-
  The asker: what it asks of a node (a symbol, a chain, only, ignore, shuffle).
-/
namespace Go.Proofs.YtgdnhlckodhhgaaGreatDoor
open Go.RowKit
set_option linter.unusedVariables false
set_option linter.unusedSimpArgs false
set_option maxRecDepth 100000 in
set_option maxHeartbeats 8000000 in
theorem ask_op0 {M : Heap} {ga gm L b c : Nat} {V : Nat → Bs → Bool} {nd : Nd} {A : Option Addr} {bj : Nat → Nat} (hL : L ≤ 1000) (hb : M b = some (.cells #[.int .i64 (nd.num : Nat), .int .i64 nd.op, .string (bs nd.s), .slice A nd.l.length c] 118 (0, 0)))
    (hrow : ∀ j, (h : j < nd.l.length) → ∃ bb o, A = some ⟨bb, o, none⟩ ∧ cellM M ⟨bb, o + j, none⟩ = some (.pointer (some ⟨bj j, 0, none⟩))) (hl : nd.l.length ≤ 1000000)
    (hk : ∀ j, (h : j < nd.l.length) → HSp 38 M ga gm V nd.l[j] (bj j) L) (hop : nd.op = 0) (hlen : True) : HSp 78 M ga gm V nd b L := by
  intro u w hu hM hA
  have hz := bs_size u
  have hzt := bs_toList u
  obtain ⟨hga, hgm⟩ := hA.lt
  have hc1 : cellM M ⟨b, 1, none⟩ = some (.int .i64 nd.op) := by simp [cellM, hb]
  have hc3 : cellM M ⟨b, 3, none⟩ = some (.slice A nd.l.length c) := by simp [cellM, hb]
  have HE' := Hid.mk (ev_eq nd)
  obtain ⟨hx0, hx1⟩ := two_boxesH hM #[.pointer (some ⟨ga, 0, none⟩)] #[.string (bs u)] 64 9
  have hM2 := (hM.alloc (.cells #[.pointer (some ⟨ga, 0, none⟩)] 64)).alloc (.cells #[.string (bs u)] 9)
  have hx2 := Box.new hM2 #[.func (.func 116) #[] #[.pointer (some ⟨w.heap.size, 0, none⟩), .pointer (some ⟨w.heap.size + 1, 0, none⟩)]] 165
  have hss : ((w.alloc (.cells #[.pointer (some ⟨ga, 0, none⟩)] 64)).alloc (.cells #[.string (bs u)] 9)).heap.size = w.heap.size + 2 := by simp
  rw [hss] at hx2
  have hx0 := hx0.alloc (.cells #[.func (.func 116) #[] #[.pointer (some ⟨w.heap.size, 0, none⟩), .pointer (some ⟨w.heap.size + 1, 0, none⟩)]] 165)
  have hx1 := hx1.alloc (.cells #[.func (.func 116) #[] #[.pointer (some ⟨w.heap.size, 0, none⟩), .pointer (some ⟨w.heap.size + 1, 0, none⟩)]] 165)
  have hM3 := hM2.alloc (.cells #[.func (.func 116) #[] #[.pointer (some ⟨w.heap.size, 0, none⟩), .pointer (some ⟨w.heap.size + 1, 0, none⟩)]] 165)
  have hA3 := ((hA.alloc (.cells #[.pointer (some ⟨ga, 0, none⟩)] 64)).alloc (.cells #[.string (bs u)] 9)).alloc (.cells #[.func (.func 116) #[] #[.pointer (some ⟨w.heap.size, 0, none⟩), .pointer (some ⟨w.heap.size + 1, 0, none⟩)]] 165)
  have hK3 := (((Kp.refl [gm] w).alloc (.cells #[.pointer (some ⟨ga, 0, none⟩)] 64)).alloc (.cells #[.string (bs u)] 9)).alloc (.cells #[.func (.func 116) #[] #[.pointer (some ⟨w.heap.size, 0, none⟩), .pointer (some ⟨w.heap.size + 1, 0, none⟩)]] 165)
  clear hM2 hss
  have HR := Hid.mk hrow
  have HK := Hid.mk hk
  have HB := Hid.mk hb
  clear hrow hk hb
  go_enter Tryz.func78, Tryz.ntmps78
  go_upto_region 2 with fail
  generalize ((w.alloc (.cells #[.pointer (some ⟨ga, 0, none⟩)] 64)).alloc (.cells #[.string (bs u)] 9)).alloc (.cells #[.func (.func 116) #[] #[.pointer (some ⟨w.heap.size, 0, none⟩), .pointer (some ⟨w.heap.size + 1, 0, none⟩)]] 165) = w3 at *
  have q0 : w3.cell? ⟨w.heap.size, 0, none⟩ = some (.pointer (some ⟨ga, 0, none⟩)) := hx0.cell 0
  have q1 : w3.cell? ⟨w.heap.size + 1, 0, none⟩ = some (.string (bs u)) := hx1.cell 0
  have q5 : w3.cell? ⟨w.heap.size + 2, 0, none⟩ = some (.func (.func 116) #[] #[.pointer (some ⟨w.heap.size, 0, none⟩), .pointer (some ⟨w.heap.size + 1, 0, none⟩)]) := hx2.cell 0
  have q2 := hM3.cell hc1
  have q4 := hM3.cell hc3
  have HL0 : Hid (∀ w', Mem w' M → Kp [gm] w3 w' → w'.cell? ⟨w.heap.size, 0, none⟩ = some (.pointer (some ⟨ga, 0, none⟩)) ∧ w'.cell? ⟨w.heap.size + 1, 0, none⟩ = some (.string (bs u)) ∧ w'.cell? ⟨w.heap.size + 2, 0, none⟩ = some (.func (.func 116) #[] #[.pointer (some ⟨w.heap.size, 0, none⟩), .pointer (some ⟨w.heap.size + 1, 0, none⟩)]) ∧ w'.cell? ⟨b, 3, none⟩ = some (.slice A nd.l.length c)) := Hid.mk (fun w' hm hk =>
    ⟨(hx0.same hk (by simp; omega)).cell 0, (hx1.same hk (by simp; omega)).cell 0, (hx2.same hk (by simp; omega)).cell 0, hm.cell hc3⟩)
  have HH := Hid.mk (And.intro hM3 (And.intro hA3 hK3))
  clear hx0 hx1 hx2 hM3 hA3 hK3 hc1 hc3
  have b0 : (nd.op == 0) = true := by rw [hop]; rfl
  have hc2 : cellM M ⟨b, 2, none⟩ = some (.string (bs nd.s)) := by simp [cellM, HB.out]
  have q3 := HH.out.1.cell hc2
  have hzs := bs_toList nd.s
  have HX : Hid ((u == nd.s) = ev nd u) := Hid.mk (by rw [HE'.out, hop]; rfl)
  clear hop hc2
  go_wp2_with fail
  go_quiet (fail)
  go_wp2_with fail
  go_ret
  exact ⟨ret_bool HX.out, HH.out.1.drewN _, HH.out.2.1.kp ((Kp.refl [] _).drewN _) (by simp) (by simp), HH.out.2.2.drewN _⟩
set_option maxRecDepth 100000 in
set_option maxHeartbeats 8000000 in
theorem ask_op4 {M : Heap} {ga gm L b c : Nat} {V : Nat → Bs → Bool} {nd : Nd} {A : Option Addr} {bj : Nat → Nat} (hL : L ≤ 1000) (hb : M b = some (.cells #[.int .i64 (nd.num : Nat), .int .i64 nd.op, .string (bs nd.s), .slice A nd.l.length c] 118 (0, 0)))
    (hrow : ∀ j, (h : j < nd.l.length) → ∃ bb o, A = some ⟨bb, o, none⟩ ∧ cellM M ⟨bb, o + j, none⟩ = some (.pointer (some ⟨bj j, 0, none⟩))) (hl : nd.l.length ≤ 1000000)
    (hk : ∀ j, (h : j < nd.l.length) → HSp 38 M ga gm V nd.l[j] (bj j) L) (hop : nd.op = 4) (hlen : True) : HSp 78 M ga gm V nd b L := by
  intro u w hu hM hA
  have hz := bs_size u
  have hzt := bs_toList u
  obtain ⟨hga, hgm⟩ := hA.lt
  have hc1 : cellM M ⟨b, 1, none⟩ = some (.int .i64 nd.op) := by simp [cellM, hb]
  have hc3 : cellM M ⟨b, 3, none⟩ = some (.slice A nd.l.length c) := by simp [cellM, hb]
  have HE' := Hid.mk (ev_eq nd)
  obtain ⟨hx0, hx1⟩ := two_boxesH hM #[.pointer (some ⟨ga, 0, none⟩)] #[.string (bs u)] 64 9
  have hM2 := (hM.alloc (.cells #[.pointer (some ⟨ga, 0, none⟩)] 64)).alloc (.cells #[.string (bs u)] 9)
  have hx2 := Box.new hM2 #[.func (.func 116) #[] #[.pointer (some ⟨w.heap.size, 0, none⟩), .pointer (some ⟨w.heap.size + 1, 0, none⟩)]] 165
  have hss : ((w.alloc (.cells #[.pointer (some ⟨ga, 0, none⟩)] 64)).alloc (.cells #[.string (bs u)] 9)).heap.size = w.heap.size + 2 := by simp
  rw [hss] at hx2
  have hx0 := hx0.alloc (.cells #[.func (.func 116) #[] #[.pointer (some ⟨w.heap.size, 0, none⟩), .pointer (some ⟨w.heap.size + 1, 0, none⟩)]] 165)
  have hx1 := hx1.alloc (.cells #[.func (.func 116) #[] #[.pointer (some ⟨w.heap.size, 0, none⟩), .pointer (some ⟨w.heap.size + 1, 0, none⟩)]] 165)
  have hM3 := hM2.alloc (.cells #[.func (.func 116) #[] #[.pointer (some ⟨w.heap.size, 0, none⟩), .pointer (some ⟨w.heap.size + 1, 0, none⟩)]] 165)
  have hA3 := ((hA.alloc (.cells #[.pointer (some ⟨ga, 0, none⟩)] 64)).alloc (.cells #[.string (bs u)] 9)).alloc (.cells #[.func (.func 116) #[] #[.pointer (some ⟨w.heap.size, 0, none⟩), .pointer (some ⟨w.heap.size + 1, 0, none⟩)]] 165)
  have hK3 := (((Kp.refl [gm] w).alloc (.cells #[.pointer (some ⟨ga, 0, none⟩)] 64)).alloc (.cells #[.string (bs u)] 9)).alloc (.cells #[.func (.func 116) #[] #[.pointer (some ⟨w.heap.size, 0, none⟩), .pointer (some ⟨w.heap.size + 1, 0, none⟩)]] 165)
  clear hM2 hss
  have HR := Hid.mk hrow
  have HK := Hid.mk hk
  have HB := Hid.mk hb
  clear hrow hk hb
  go_enter Tryz.func78, Tryz.ntmps78
  go_upto_region 2 with fail
  generalize ((w.alloc (.cells #[.pointer (some ⟨ga, 0, none⟩)] 64)).alloc (.cells #[.string (bs u)] 9)).alloc (.cells #[.func (.func 116) #[] #[.pointer (some ⟨w.heap.size, 0, none⟩), .pointer (some ⟨w.heap.size + 1, 0, none⟩)]] 165) = w3 at *
  have q0 : w3.cell? ⟨w.heap.size, 0, none⟩ = some (.pointer (some ⟨ga, 0, none⟩)) := hx0.cell 0
  have q1 : w3.cell? ⟨w.heap.size + 1, 0, none⟩ = some (.string (bs u)) := hx1.cell 0
  have q5 : w3.cell? ⟨w.heap.size + 2, 0, none⟩ = some (.func (.func 116) #[] #[.pointer (some ⟨w.heap.size, 0, none⟩), .pointer (some ⟨w.heap.size + 1, 0, none⟩)]) := hx2.cell 0
  have q2 := hM3.cell hc1
  have q4 := hM3.cell hc3
  have HL0 : Hid (∀ w', Mem w' M → Kp [gm] w3 w' → w'.cell? ⟨w.heap.size, 0, none⟩ = some (.pointer (some ⟨ga, 0, none⟩)) ∧ w'.cell? ⟨w.heap.size + 1, 0, none⟩ = some (.string (bs u)) ∧ w'.cell? ⟨w.heap.size + 2, 0, none⟩ = some (.func (.func 116) #[] #[.pointer (some ⟨w.heap.size, 0, none⟩), .pointer (some ⟨w.heap.size + 1, 0, none⟩)]) ∧ w'.cell? ⟨b, 3, none⟩ = some (.slice A nd.l.length c)) := Hid.mk (fun w' hm hk =>
    ⟨(hx0.same hk (by simp; omega)).cell 0, (hx1.same hk (by simp; omega)).cell 0, (hx2.same hk (by simp; omega)).cell 0, hm.cell hc3⟩)
  have HH := Hid.mk (And.intro hM3 (And.intro hA3 hK3))
  clear hx0 hx1 hx2 hM3 hA3 hK3 hc1 hc3
  have b0 : (nd.op == 0) = false := by rw [hop]; rfl
  have b1 : (nd.op == 1) = false := by rw [hop]; rfl
  have b2 : (nd.op == 2) = false := by rw [hop]; rfl
  have b4 : (nd.op == 4) = true := by rw [hop]; rfl
  obtain ⟨τ, W, x0, hx0, hC, hin⟩ := class_of (fun w' => Mem w' M ∧ As w' M ga gm V ∧ Kp [gm] w3 w') (w := w3.drew) ⟨HH.out.1.drew, HH.out.2.1.kp ((Kp.refl [] _).drew) (by simp) (by simp), (Kp.refl [gm] w3).drew⟩
  have hne : Nonempty τ := ⟨x0⟩
  have HC := Hid.mk hC
  have HIN := Hid.mk hin
  have HX0 := Hid.mk hx0
  clear hC hin hx0
  have c0 : ∀ x, (W x).cell? ⟨w.heap.size, 0, none⟩ = some (.pointer (some ⟨ga, 0, none⟩)) := fun x => (HL0.out _ (HC.out x).1 (HC.out x).2.2).1
  have c1 : ∀ x, (W x).cell? ⟨w.heap.size + 1, 0, none⟩ = some (.string (bs u)) := fun x => (HL0.out _ (HC.out x).1 (HC.out x).2.2).2.1
  have c2 : ∀ x, (W x).cell? ⟨w.heap.size + 2, 0, none⟩ = some (.func (.func 116) #[] #[.pointer (some ⟨w.heap.size, 0, none⟩), .pointer (some ⟨w.heap.size + 1, 0, none⟩)]) := fun x => (HL0.out _ (HC.out x).1 (HC.out x).2.2).2.2.1
  have c3 : ∀ x, (W x).cell? ⟨b, 3, none⟩ = some (.slice A nd.l.length c) := fun x => (HL0.out _ (HC.out x).1 (HC.out x).2.2).2.2.2
  have HX : Hid (chainB (evs nd.l) u = ev nd u) := Hid.mk (by rw [HE'.out, hop]; rfl)
  have HM := Hid.mk (fun x => (chain_calls (c := c) hL HR.out HK.out hl u (W x) hu (HC.out x).1 (HC.out x).2.1).mono (R' := fun e w' => e = .returned (.bool (chainB (evs nd.l) u)) ∧ ∃ x, w' = W x) (by rintro e w5 ⟨rfl, hM5, hA5, hk5⟩; exact ⟨rfl, HIN.out _ ⟨hM5, hA5, (HC.out x).2.2.trans hk5⟩⟩))
  clear hop
  go_upto_region 10 with fail
  refine wp_region_cls W x0 HX0.out (by kernel_rfl) (by kernel_rfl) ?_
  repeat (go_big_quiet_step (first | (go_at_call 117; exact HM.out _) | fail))
  refine wpQuiet_nil ?_
  rintro _ ⟨x, rfl⟩
  have HZ := Hid.mk (HC.out x)
  go_wp2_with fail
  go_ret
  exact ⟨ret_bool HX.out, HZ.out.1, HZ.out.2.1, HH.out.2.2.trans HZ.out.2.2⟩
set_option maxRecDepth 100000 in
set_option maxHeartbeats 8000000 in
theorem ask_op14 {M : Heap} {ga gm L b c : Nat} {V : Nat → Bs → Bool} {nd : Nd} {A : Option Addr} {bj : Nat → Nat} (hL : L ≤ 1000) (hb : M b = some (.cells #[.int .i64 (nd.num : Nat), .int .i64 nd.op, .string (bs nd.s), .slice A nd.l.length c] 118 (0, 0)))
    (hrow : ∀ j, (h : j < nd.l.length) → ∃ bb o, A = some ⟨bb, o, none⟩ ∧ cellM M ⟨bb, o + j, none⟩ = some (.pointer (some ⟨bj j, 0, none⟩))) (hl : nd.l.length ≤ 1000000)
    (hk : ∀ j, (h : j < nd.l.length) → HSp 38 M ga gm V nd.l[j] (bj j) L) (hop : nd.op = 14) (hlen : nd.l.length = 3) : HSp 78 M ga gm V nd b L := by
  intro u w hu hM hA
  have hz := bs_size u
  have hzt := bs_toList u
  obtain ⟨hga, hgm⟩ := hA.lt
  have hc1 : cellM M ⟨b, 1, none⟩ = some (.int .i64 nd.op) := by simp [cellM, hb]
  have hc3 : cellM M ⟨b, 3, none⟩ = some (.slice A nd.l.length c) := by simp [cellM, hb]
  have HE' := Hid.mk (ev_eq nd)
  obtain ⟨hx0, hx1⟩ := two_boxesH hM #[.pointer (some ⟨ga, 0, none⟩)] #[.string (bs u)] 64 9
  have hM2 := (hM.alloc (.cells #[.pointer (some ⟨ga, 0, none⟩)] 64)).alloc (.cells #[.string (bs u)] 9)
  have hx2 := Box.new hM2 #[.func (.func 116) #[] #[.pointer (some ⟨w.heap.size, 0, none⟩), .pointer (some ⟨w.heap.size + 1, 0, none⟩)]] 165
  have hss : ((w.alloc (.cells #[.pointer (some ⟨ga, 0, none⟩)] 64)).alloc (.cells #[.string (bs u)] 9)).heap.size = w.heap.size + 2 := by simp
  rw [hss] at hx2
  have hx0 := hx0.alloc (.cells #[.func (.func 116) #[] #[.pointer (some ⟨w.heap.size, 0, none⟩), .pointer (some ⟨w.heap.size + 1, 0, none⟩)]] 165)
  have hx1 := hx1.alloc (.cells #[.func (.func 116) #[] #[.pointer (some ⟨w.heap.size, 0, none⟩), .pointer (some ⟨w.heap.size + 1, 0, none⟩)]] 165)
  have hM3 := hM2.alloc (.cells #[.func (.func 116) #[] #[.pointer (some ⟨w.heap.size, 0, none⟩), .pointer (some ⟨w.heap.size + 1, 0, none⟩)]] 165)
  have hA3 := ((hA.alloc (.cells #[.pointer (some ⟨ga, 0, none⟩)] 64)).alloc (.cells #[.string (bs u)] 9)).alloc (.cells #[.func (.func 116) #[] #[.pointer (some ⟨w.heap.size, 0, none⟩), .pointer (some ⟨w.heap.size + 1, 0, none⟩)]] 165)
  have hK3 := (((Kp.refl [gm] w).alloc (.cells #[.pointer (some ⟨ga, 0, none⟩)] 64)).alloc (.cells #[.string (bs u)] 9)).alloc (.cells #[.func (.func 116) #[] #[.pointer (some ⟨w.heap.size, 0, none⟩), .pointer (some ⟨w.heap.size + 1, 0, none⟩)]] 165)
  clear hM2 hss
  have HR := Hid.mk hrow
  have HK := Hid.mk hk
  have HB := Hid.mk hb
  clear hrow hk hb
  go_enter Tryz.func78, Tryz.ntmps78
  go_upto_region 2 with fail
  generalize ((w.alloc (.cells #[.pointer (some ⟨ga, 0, none⟩)] 64)).alloc (.cells #[.string (bs u)] 9)).alloc (.cells #[.func (.func 116) #[] #[.pointer (some ⟨w.heap.size, 0, none⟩), .pointer (some ⟨w.heap.size + 1, 0, none⟩)]] 165) = w3 at *
  have q0 : w3.cell? ⟨w.heap.size, 0, none⟩ = some (.pointer (some ⟨ga, 0, none⟩)) := hx0.cell 0
  have q1 : w3.cell? ⟨w.heap.size + 1, 0, none⟩ = some (.string (bs u)) := hx1.cell 0
  have q5 : w3.cell? ⟨w.heap.size + 2, 0, none⟩ = some (.func (.func 116) #[] #[.pointer (some ⟨w.heap.size, 0, none⟩), .pointer (some ⟨w.heap.size + 1, 0, none⟩)]) := hx2.cell 0
  have q2 := hM3.cell hc1
  have q4 := hM3.cell hc3
  have HL0 : Hid (∀ w', Mem w' M → Kp [gm] w3 w' → w'.cell? ⟨w.heap.size, 0, none⟩ = some (.pointer (some ⟨ga, 0, none⟩)) ∧ w'.cell? ⟨w.heap.size + 1, 0, none⟩ = some (.string (bs u)) ∧ w'.cell? ⟨w.heap.size + 2, 0, none⟩ = some (.func (.func 116) #[] #[.pointer (some ⟨w.heap.size, 0, none⟩), .pointer (some ⟨w.heap.size + 1, 0, none⟩)]) ∧ w'.cell? ⟨b, 3, none⟩ = some (.slice A nd.l.length c)) := Hid.mk (fun w' hm hk =>
    ⟨(hx0.same hk (by simp; omega)).cell 0, (hx1.same hk (by simp; omega)).cell 0, (hx2.same hk (by simp; omega)).cell 0, hm.cell hc3⟩)
  have HH := Hid.mk (And.intro hM3 (And.intro hA3 hK3))
  clear hx0 hx1 hx2 hM3 hA3 hK3 hc1 hc3
  have b0 : (nd.op == 0) = false := by rw [hop]; rfl
  have b1 : (nd.op == 1) = false := by rw [hop]; rfl
  have b2 : (nd.op == 2) = false := by rw [hop]; rfl
  have b4 : (nd.op == 4) = false := by rw [hop]; rfl
  have b5 : (nd.op == 5) = false := by rw [hop]; rfl
  have b6 : (nd.op == 6) = false := by rw [hop]; rfl
  have b7 : (nd.op == 7) = false := by rw [hop]; rfl
  have b8 : (nd.op == 8) = false := by rw [hop]; rfl
  have b9 : (nd.op == 9) = false := by rw [hop]; rfl
  have b10 : (nd.op == 10) = false := by rw [hop]; rfl
  have b11 : (nd.op == 11) = false := by rw [hop]; rfl
  have b12 : (nd.op == 12) = false := by rw [hop]; rfl
  have b14 : (nd.op == 14) = true := by rw [hop]; rfl
  have HL := Hid.mk hlen
  clear hlen
  obtain ⟨bb, o, rfl, k0⟩ := HR.out 0 (by have := HL.out; omega)
  rw [Nat.add_zero] at k0
  obtain ⟨bb', o', hbb, k1⟩ := HR.out 1 (by have := HL.out; omega)
  injection hbb with hbb
  injection hbb with hb1 hb2
  subst hb1 hb2
  obtain ⟨bb', o', hbb, k2⟩ := HR.out 2 (by have := HL.out; omega)
  injection hbb with hbb
  injection hbb with hb1 hb2
  subst hb1 hb2
  have HX : Hid (onlyB (ev (nd.l[0]'(by have := HL.out; omega))) (ev (nd.l[1]'(by have := HL.out; omega))) (ev (nd.l[2]'(by have := HL.out; omega))) u = ev nd u) := Hid.mk (by
    rw [HE'.out, hop]
    show _ = onlyB (nth (evs nd.l) 0) (nth (evs nd.l) 1) (nth (evs nd.l) 2) u
    rw [nth_ev (by have := HL.out; omega), nth_ev (by have := HL.out; omega), nth_ev (by have := HL.out; omega)])
  have hb3 : cellM M ⟨b, 3, none⟩ = some (.slice (some ⟨bb, o, none⟩) 3 c) := by simp [cellM, HB.out, HL.out]
  have HM := Hid.mk (monly_calls hL hb3 k0 k1 k2 (HK.out 0 (by have := HL.out; omega)) (HK.out 1 (by have := HL.out; omega)) (HK.out 2 (by have := HL.out; omega)) u w3 hu HH.out.1 HH.out.2.1)
  clear hb3 k0 k1 k2
  clear hop
  go_wp2_with fail
  refine HM.out.mono ?_
  rintro e w5 ⟨rfl, hM5, hA5, hk5⟩
  have HZ := Hid.mk (And.intro hM5 (And.intro hA5 (HH.out.2.2.trans hk5)))
  clear hM5 hA5 hk5
  go_wp2_with fail
  go_ret
  exact ⟨ret_bool HX.out, HZ.out.1, HZ.out.2.1, HZ.out.2.2⟩
set_option maxRecDepth 100000 in
set_option maxHeartbeats 8000000 in
theorem ask_op13 {M : Heap} {ga gm L b c : Nat} {V : Nat → Bs → Bool} {nd : Nd} {A : Option Addr} {bj : Nat → Nat} (hL10 : L ≤ 10) (hb : M b = some (.cells #[.int .i64 (nd.num : Nat), .int .i64 nd.op, .string (bs nd.s), .slice A nd.l.length c] 118 (0, 0)))
    (hrow : ∀ j, (h : j < nd.l.length) → ∃ bb o, A = some ⟨bb, o, none⟩ ∧ cellM M ⟨bb, o + j, none⟩ = some (.pointer (some ⟨bj j, 0, none⟩))) (hl : nd.l.length ≤ 1000000)
    (hk : ∀ j, (h : j < nd.l.length) → HSp 38 M ga gm V nd.l[j] (bj j) L) (hop : nd.op = 13) (hlen : nd.l.length = 2) : HSp 78 M ga gm V nd b L := by
  intro u w hu hM hA
  have hz := bs_size u
  have hzt := bs_toList u
  obtain ⟨hga, hgm⟩ := hA.lt
  have hc1 : cellM M ⟨b, 1, none⟩ = some (.int .i64 nd.op) := by simp [cellM, hb]
  have hc3 : cellM M ⟨b, 3, none⟩ = some (.slice A nd.l.length c) := by simp [cellM, hb]
  have HE' := Hid.mk (ev_eq nd)
  obtain ⟨hx0, hx1⟩ := two_boxesH hM #[.pointer (some ⟨ga, 0, none⟩)] #[.string (bs u)] 64 9
  have hM2 := (hM.alloc (.cells #[.pointer (some ⟨ga, 0, none⟩)] 64)).alloc (.cells #[.string (bs u)] 9)
  have hx2 := Box.new hM2 #[.func (.func 116) #[] #[.pointer (some ⟨w.heap.size, 0, none⟩), .pointer (some ⟨w.heap.size + 1, 0, none⟩)]] 165
  have hss : ((w.alloc (.cells #[.pointer (some ⟨ga, 0, none⟩)] 64)).alloc (.cells #[.string (bs u)] 9)).heap.size = w.heap.size + 2 := by simp
  rw [hss] at hx2
  have hx0 := hx0.alloc (.cells #[.func (.func 116) #[] #[.pointer (some ⟨w.heap.size, 0, none⟩), .pointer (some ⟨w.heap.size + 1, 0, none⟩)]] 165)
  have hx1 := hx1.alloc (.cells #[.func (.func 116) #[] #[.pointer (some ⟨w.heap.size, 0, none⟩), .pointer (some ⟨w.heap.size + 1, 0, none⟩)]] 165)
  have hM3 := hM2.alloc (.cells #[.func (.func 116) #[] #[.pointer (some ⟨w.heap.size, 0, none⟩), .pointer (some ⟨w.heap.size + 1, 0, none⟩)]] 165)
  have hA3 := ((hA.alloc (.cells #[.pointer (some ⟨ga, 0, none⟩)] 64)).alloc (.cells #[.string (bs u)] 9)).alloc (.cells #[.func (.func 116) #[] #[.pointer (some ⟨w.heap.size, 0, none⟩), .pointer (some ⟨w.heap.size + 1, 0, none⟩)]] 165)
  have hK3 := (((Kp.refl [gm] w).alloc (.cells #[.pointer (some ⟨ga, 0, none⟩)] 64)).alloc (.cells #[.string (bs u)] 9)).alloc (.cells #[.func (.func 116) #[] #[.pointer (some ⟨w.heap.size, 0, none⟩), .pointer (some ⟨w.heap.size + 1, 0, none⟩)]] 165)
  clear hM2 hss
  have HR := Hid.mk hrow
  have HK := Hid.mk hk
  have HB := Hid.mk hb
  clear hrow hk hb
  go_enter Tryz.func78, Tryz.ntmps78
  go_upto_region 2 with fail
  generalize ((w.alloc (.cells #[.pointer (some ⟨ga, 0, none⟩)] 64)).alloc (.cells #[.string (bs u)] 9)).alloc (.cells #[.func (.func 116) #[] #[.pointer (some ⟨w.heap.size, 0, none⟩), .pointer (some ⟨w.heap.size + 1, 0, none⟩)]] 165) = w3 at *
  have q0 : w3.cell? ⟨w.heap.size, 0, none⟩ = some (.pointer (some ⟨ga, 0, none⟩)) := hx0.cell 0
  have q1 : w3.cell? ⟨w.heap.size + 1, 0, none⟩ = some (.string (bs u)) := hx1.cell 0
  have q5 : w3.cell? ⟨w.heap.size + 2, 0, none⟩ = some (.func (.func 116) #[] #[.pointer (some ⟨w.heap.size, 0, none⟩), .pointer (some ⟨w.heap.size + 1, 0, none⟩)]) := hx2.cell 0
  have q2 := hM3.cell hc1
  have q4 := hM3.cell hc3
  have HL0 : Hid (∀ w', Mem w' M → Kp [gm] w3 w' → w'.cell? ⟨w.heap.size, 0, none⟩ = some (.pointer (some ⟨ga, 0, none⟩)) ∧ w'.cell? ⟨w.heap.size + 1, 0, none⟩ = some (.string (bs u)) ∧ w'.cell? ⟨w.heap.size + 2, 0, none⟩ = some (.func (.func 116) #[] #[.pointer (some ⟨w.heap.size, 0, none⟩), .pointer (some ⟨w.heap.size + 1, 0, none⟩)]) ∧ w'.cell? ⟨b, 3, none⟩ = some (.slice A nd.l.length c)) := Hid.mk (fun w' hm hk =>
    ⟨(hx0.same hk (by simp; omega)).cell 0, (hx1.same hk (by simp; omega)).cell 0, (hx2.same hk (by simp; omega)).cell 0, hm.cell hc3⟩)
  have HH := Hid.mk (And.intro hM3 (And.intro hA3 hK3))
  clear hx0 hx1 hx2 hM3 hA3 hK3 hc1 hc3
  have b0 : (nd.op == 0) = false := by rw [hop]; rfl
  have b1 : (nd.op == 1) = false := by rw [hop]; rfl
  have b2 : (nd.op == 2) = false := by rw [hop]; rfl
  have b4 : (nd.op == 4) = false := by rw [hop]; rfl
  have b5 : (nd.op == 5) = false := by rw [hop]; rfl
  have b6 : (nd.op == 6) = false := by rw [hop]; rfl
  have b7 : (nd.op == 7) = false := by rw [hop]; rfl
  have b8 : (nd.op == 8) = false := by rw [hop]; rfl
  have b9 : (nd.op == 9) = false := by rw [hop]; rfl
  have b10 : (nd.op == 10) = false := by rw [hop]; rfl
  have b11 : (nd.op == 11) = false := by rw [hop]; rfl
  have b12 : (nd.op == 12) = false := by rw [hop]; rfl
  have b14 : (nd.op == 14) = false := by rw [hop]; rfl
  have b13 : (nd.op == 13) = true := by rw [hop]; rfl
  have HL := Hid.mk hlen
  clear hlen
  obtain ⟨bb, o, rfl, k0⟩ := HR.out 0 (by have := HL.out; omega)
  rw [Nat.add_zero] at k0
  obtain ⟨bb', o', hbb, k1⟩ := HR.out 1 (by have := HL.out; omega)
  injection hbb with hbb
  injection hbb with hb1 hb2
  subst hb1 hb2
  have HX : Hid (rowsB 13 (ev (nd.l[0]'(by have := HL.out; omega))) (ev (nd.l[1]'(by have := HL.out; omega))) u = ev nd u) := Hid.mk (by
    rw [HE'.out, hop]
    show _ = rowsB 13 (nth (evs nd.l) 0) (nth (evs nd.l) 1) u
    rw [nth_ev (by have := HL.out; omega), nth_ev (by have := HL.out; omega)])
  have hb := HB.out
  rw [hop, HL.out] at hb
  have HM := Hid.mk (rows_calls hL10 hb k0 k1 (HK.out 0 (by have := HL.out; omega)) (HK.out 1 (by have := HL.out; omega)) u w3 hu HH.out.1 HH.out.2.1)
  clear hb k0 k1
  clear hop
  go_wp2_with fail
  refine HM.out.mono ?_
  rintro e w5 ⟨rfl, hM5, hA5, hk5⟩
  have HZ := Hid.mk (And.intro hM5 (And.intro hA5 (HH.out.2.2.trans hk5)))
  clear hM5 hA5 hk5
  go_wp2_with fail
  go_ret
  exact ⟨ret_bool HX.out, HZ.out.1, HZ.out.2.1, HZ.out.2.2⟩
set_option maxRecDepth 100000 in
set_option maxHeartbeats 8000000 in
theorem ask_op15 {M : Heap} {ga gm L b c : Nat} {V : Nat → Bs → Bool} {nd : Nd} {A : Option Addr} {bj : Nat → Nat} (hL10 : L ≤ 10) (hb : M b = some (.cells #[.int .i64 (nd.num : Nat), .int .i64 nd.op, .string (bs nd.s), .slice A nd.l.length c] 118 (0, 0)))
    (hrow : ∀ j, (h : j < nd.l.length) → ∃ bb o, A = some ⟨bb, o, none⟩ ∧ cellM M ⟨bb, o + j, none⟩ = some (.pointer (some ⟨bj j, 0, none⟩))) (hl : nd.l.length ≤ 1000000)
    (hk : ∀ j, (h : j < nd.l.length) → HSp 38 M ga gm V nd.l[j] (bj j) L) (hop : nd.op = 15) (hlen : nd.l.length = 2) : HSp 78 M ga gm V nd b L := by
  intro u w hu hM hA
  have hz := bs_size u
  have hzt := bs_toList u
  obtain ⟨hga, hgm⟩ := hA.lt
  have hc1 : cellM M ⟨b, 1, none⟩ = some (.int .i64 nd.op) := by simp [cellM, hb]
  have hc3 : cellM M ⟨b, 3, none⟩ = some (.slice A nd.l.length c) := by simp [cellM, hb]
  have HE' := Hid.mk (ev_eq nd)
  obtain ⟨hx0, hx1⟩ := two_boxesH hM #[.pointer (some ⟨ga, 0, none⟩)] #[.string (bs u)] 64 9
  have hM2 := (hM.alloc (.cells #[.pointer (some ⟨ga, 0, none⟩)] 64)).alloc (.cells #[.string (bs u)] 9)
  have hx2 := Box.new hM2 #[.func (.func 116) #[] #[.pointer (some ⟨w.heap.size, 0, none⟩), .pointer (some ⟨w.heap.size + 1, 0, none⟩)]] 165
  have hss : ((w.alloc (.cells #[.pointer (some ⟨ga, 0, none⟩)] 64)).alloc (.cells #[.string (bs u)] 9)).heap.size = w.heap.size + 2 := by simp
  rw [hss] at hx2
  have hx0 := hx0.alloc (.cells #[.func (.func 116) #[] #[.pointer (some ⟨w.heap.size, 0, none⟩), .pointer (some ⟨w.heap.size + 1, 0, none⟩)]] 165)
  have hx1 := hx1.alloc (.cells #[.func (.func 116) #[] #[.pointer (some ⟨w.heap.size, 0, none⟩), .pointer (some ⟨w.heap.size + 1, 0, none⟩)]] 165)
  have hM3 := hM2.alloc (.cells #[.func (.func 116) #[] #[.pointer (some ⟨w.heap.size, 0, none⟩), .pointer (some ⟨w.heap.size + 1, 0, none⟩)]] 165)
  have hA3 := ((hA.alloc (.cells #[.pointer (some ⟨ga, 0, none⟩)] 64)).alloc (.cells #[.string (bs u)] 9)).alloc (.cells #[.func (.func 116) #[] #[.pointer (some ⟨w.heap.size, 0, none⟩), .pointer (some ⟨w.heap.size + 1, 0, none⟩)]] 165)
  have hK3 := (((Kp.refl [gm] w).alloc (.cells #[.pointer (some ⟨ga, 0, none⟩)] 64)).alloc (.cells #[.string (bs u)] 9)).alloc (.cells #[.func (.func 116) #[] #[.pointer (some ⟨w.heap.size, 0, none⟩), .pointer (some ⟨w.heap.size + 1, 0, none⟩)]] 165)
  clear hM2 hss
  have HR := Hid.mk hrow
  have HK := Hid.mk hk
  have HB := Hid.mk hb
  clear hrow hk hb
  go_enter Tryz.func78, Tryz.ntmps78
  go_upto_region 2 with fail
  generalize ((w.alloc (.cells #[.pointer (some ⟨ga, 0, none⟩)] 64)).alloc (.cells #[.string (bs u)] 9)).alloc (.cells #[.func (.func 116) #[] #[.pointer (some ⟨w.heap.size, 0, none⟩), .pointer (some ⟨w.heap.size + 1, 0, none⟩)]] 165) = w3 at *
  have q0 : w3.cell? ⟨w.heap.size, 0, none⟩ = some (.pointer (some ⟨ga, 0, none⟩)) := hx0.cell 0
  have q1 : w3.cell? ⟨w.heap.size + 1, 0, none⟩ = some (.string (bs u)) := hx1.cell 0
  have q5 : w3.cell? ⟨w.heap.size + 2, 0, none⟩ = some (.func (.func 116) #[] #[.pointer (some ⟨w.heap.size, 0, none⟩), .pointer (some ⟨w.heap.size + 1, 0, none⟩)]) := hx2.cell 0
  have q2 := hM3.cell hc1
  have q4 := hM3.cell hc3
  have HL0 : Hid (∀ w', Mem w' M → Kp [gm] w3 w' → w'.cell? ⟨w.heap.size, 0, none⟩ = some (.pointer (some ⟨ga, 0, none⟩)) ∧ w'.cell? ⟨w.heap.size + 1, 0, none⟩ = some (.string (bs u)) ∧ w'.cell? ⟨w.heap.size + 2, 0, none⟩ = some (.func (.func 116) #[] #[.pointer (some ⟨w.heap.size, 0, none⟩), .pointer (some ⟨w.heap.size + 1, 0, none⟩)]) ∧ w'.cell? ⟨b, 3, none⟩ = some (.slice A nd.l.length c)) := Hid.mk (fun w' hm hk =>
    ⟨(hx0.same hk (by simp; omega)).cell 0, (hx1.same hk (by simp; omega)).cell 0, (hx2.same hk (by simp; omega)).cell 0, hm.cell hc3⟩)
  have HH := Hid.mk (And.intro hM3 (And.intro hA3 hK3))
  clear hx0 hx1 hx2 hM3 hA3 hK3 hc1 hc3
  have b0 : (nd.op == 0) = false := by rw [hop]; rfl
  have b1 : (nd.op == 1) = false := by rw [hop]; rfl
  have b2 : (nd.op == 2) = false := by rw [hop]; rfl
  have b4 : (nd.op == 4) = false := by rw [hop]; rfl
  have b5 : (nd.op == 5) = false := by rw [hop]; rfl
  have b6 : (nd.op == 6) = false := by rw [hop]; rfl
  have b7 : (nd.op == 7) = false := by rw [hop]; rfl
  have b8 : (nd.op == 8) = false := by rw [hop]; rfl
  have b9 : (nd.op == 9) = false := by rw [hop]; rfl
  have b10 : (nd.op == 10) = false := by rw [hop]; rfl
  have b11 : (nd.op == 11) = false := by rw [hop]; rfl
  have b12 : (nd.op == 12) = false := by rw [hop]; rfl
  have b14 : (nd.op == 14) = false := by rw [hop]; rfl
  have b13 : (nd.op == 13) = false := by rw [hop]; rfl
  have b15 : (nd.op == 15) = true := by rw [hop]; rfl
  have HL := Hid.mk hlen
  clear hlen
  obtain ⟨bb, o, rfl, k0⟩ := HR.out 0 (by have := HL.out; omega)
  rw [Nat.add_zero] at k0
  obtain ⟨bb', o', hbb, k1⟩ := HR.out 1 (by have := HL.out; omega)
  injection hbb with hbb
  injection hbb with hb1 hb2
  subst hb1 hb2
  have HX : Hid (rowsB 15 (ev (nd.l[0]'(by have := HL.out; omega))) (ev (nd.l[1]'(by have := HL.out; omega))) u = ev nd u) := Hid.mk (by
    rw [HE'.out, hop]
    show _ = rowsB 15 (nth (evs nd.l) 0) (nth (evs nd.l) 1) u
    rw [nth_ev (by have := HL.out; omega), nth_ev (by have := HL.out; omega)])
  have hb := HB.out
  rw [hop, HL.out] at hb
  have HM := Hid.mk (rows15_calls hL10 hb k0 k1 (HK.out 0 (by have := HL.out; omega)) (HK.out 1 (by have := HL.out; omega)) u w3 hu HH.out.1 HH.out.2.1)
  clear hb k0 k1
  clear hop
  go_wp2_with fail
  refine HM.out.mono ?_
  rintro e w5 ⟨rfl, hM5, hA5, hk5⟩
  have HZ := Hid.mk (And.intro hM5 (And.intro hA5 (HH.out.2.2.trans hk5)))
  clear hM5 hA5 hk5
  go_wp2_with fail
  go_ret
  exact ⟨ret_bool HX.out, HZ.out.1, HZ.out.2.1, HZ.out.2.2⟩
end Go.Proofs.YtgdnhlckodhhgaaGreatDoor

/-
  The asker: all nodes.
-/
namespace Go.Proofs.YtgdnhlckodhhgaaGreatDoor
open Go.RowKit
set_option linter.unusedVariables false
set_option linter.unusedSimpArgs false
/-- How many nodes stand below one, by its operator. -/
def shapeN (L : Nat) (op : Int) (n : Nat) : Prop :=
  op = 0 ∨ op = 1 ∨ op = 2 ∨ op = 3 ∨ op = 4 ∨ (op = 5 ∧ 0 < n) ∨ (op = 6 ∧ 0 < n) ∨ (op = 7 ∧ n = 2) ∨ (op = 8 ∧ n = 1) ∨ (op = 9 ∧ n = 1) ∨ (op = 10 ∧ n = 1) ∨ (op = 11 ∧ n = 1) ∨ (op = 12 ∧ n = 1) ∨ (op = 14 ∧ n = 3) ∨ (op = 13 ∧ n = 2 ∧ L ≤ 10) ∨ (op = 15 ∧ n = 2 ∧ L ≤ 10)
/-- Nodes that are asked of. -/
def Oka (L : Nat) : Nat → Nd → Prop
  | 0, _ => False
  | d + 1, nd => shapeN L nd.op nd.l.length ∧ nd.l.length ≤ 1000000 ∧ ∀ x ∈ nd.l, Oka L d x
theorem ask_all {M : Heap} {ga gm L b c : Nat} {V : Nat → Bs → Bool} {nd : Nd} {A : Option Addr} {bj : Nat → Nat} (hL : L ≤ 1000) (hb : M b = some (.cells #[.int .i64 (nd.num : Nat), .int .i64 nd.op, .string (bs nd.s), .slice A nd.l.length c] 118 (0, 0)))
    (hrow : ∀ j, (h : j < nd.l.length) → ∃ bb o, A = some ⟨bb, o, none⟩ ∧ cellM M ⟨bb, o + j, none⟩ = some (.pointer (some ⟨bj j, 0, none⟩))) (hl : nd.l.length ≤ 1000000)
    (hk : ∀ j, (h : j < nd.l.length) → HSp 38 M ga gm V nd.l[j] (bj j) L) (hs : shapeN L nd.op nd.l.length) : HSp 78 M ga gm V nd b L := by
  rcases hs with h | h | h | h | h | ⟨h, hn⟩ | ⟨h, hn⟩ | ⟨h, hn⟩ | ⟨h, hn⟩ | ⟨h, hn⟩ | ⟨h, hn⟩ | ⟨h, hn⟩ | ⟨h, hn⟩ | ⟨h, hn⟩ | ⟨h, hn, h10⟩ | ⟨h, hn, h10⟩
  · exact ask_op0 hL hb hrow hl hk h trivial
  · exact ask_op1 hL hb hrow hl hk h trivial
  · exact ask_op2 hL hb hrow hl hk h trivial
  · exact ask_op3 hL hb hrow hl hk h trivial
  · exact ask_op4 hL hb hrow hl hk h trivial
  · exact ask_op5 hL hb hrow hl hk h hn
  · exact ask_op6 hL hb hrow hl hk h hn
  · exact ask_op7 hL hb hrow hl hk h hn
  · exact ask_op8 hL hb hrow hl hk h hn
  · exact ask_op9 hL hb hrow hl hk h hn
  · exact ask_op10 hL hb hrow hl hk h hn
  · exact ask_op11 hL hb hrow hl hk h hn
  · exact ask_op12 hL hb hrow hl hk h hn
  · exact ask_op14 hL hb hrow hl hk h hn
  · exact ask_op13 h10 hb hrow hl hk h hn
  · exact ask_op15 h10 hb hrow hl hk h hn
theorem HoldsAll_calls {M : Heap} {ga gm L : Nat} {V : Nat → Bs → Bool} (hL : L ≤ 1000) : ∀ (d : Nat) (nd : Nd) (b : Nat), NdM M b nd → Nums V d nd → Oka L d nd → HSp 38 M ga gm V nd b L := by
  intro d
  induction d with
  | zero => intro nd b _ _ h; exact h.elim
  | succ d ih =>
    intro nd b hn hv ho
    obtain ⟨A, c, bj, hb, hrow, hk⟩ := hn.cells
    obtain ⟨h1, h2, h3⟩ := ho
    refine Holds_of_ask (d := d + 1) hL hn hv (ask_all hL hb hrow h2 (fun j hj => ih _ _ (hk j hj) ?_ (h3 _ (List.getElem_mem hj))) h1)
    cases nd with
    | mk num op s l => exact hv.2.2 _ (List.getElem_mem hj)
end Go.Proofs.YtgdnhlckodhhgaaGreatDoor
