/-
  The asker: a word cut into two rows, of which the second one's runs are rows of words (ignore).
-/
import Derived.Test.YtgdnhlckodhhgaaGreatDoorJH
namespace Go.Proofs.YtgdnhlckodhhgaaGreatDoor
open Go.RowKit
set_option linter.unusedVariables false
set_option linter.unusedSimpArgs false
theorem two_boxesH {w : World} {M : Heap} (hM : Mem w M) (c d : Array Value) (t u : TypeId) : Box ((w.alloc (.cells c t)).alloc (.cells d u)) M w.heap.size c t ∧ Box ((w.alloc (.cells c t)).alloc (.cells d u)) M (w.heap.size + 1) d u := by
  refine ⟨(Box.new hM c t).alloc _, ?_⟩
  have h := Box.new (hM.alloc (.cells c t)) d u
  have e : (w.alloc (.cells c t)).heap.size = w.heap.size + 1 := by simp
  rwa [e] at h
theorem str_cells {w : World} {b : Nat} {s : ByteArray} {t : TypeId} (h : w.heap[b]? = some (.cells #[.string s] t (0, 0))) : ∀ j v, [Value.string s][j]? = some v → w.cell? ((⟨b, 0, none⟩ : Addr).add j) = some v := by
  intro j v hv
  have e : (⟨b, 0, none⟩ : Addr).add j = ⟨b, j, none⟩ := by unfold Addr.add; split <;> simp_all
  rw [e]
  simp only [World.cell?, h, Option.isSome_none, Bool.false_eq_true, if_false]
  match j, hv with
  | 0, hv => exact hv
  | j + 1, hv => simp at hv
theorem str_one {s : ByteArray} : ∀ v ∈ [Value.string s], v.oneCell' = true := by
  intro v hv
  simp at hv
  subst hv; rfl
theorem Tryz.infoS : (Tryz.prog.info? 9).map (fun i => (i.zero, i.size, i.bytes)) = some (some (.string ⟨#[]⟩), 1, 16) := by kernel_rfl
theorem RI.drewN {M : Heap} {ga gm b g0 n cap : Nat} {V : Nat → Bs → Bool} {w0 w : World} {rs : List Bs} (h : RI M ga gm b V w0 g0 n cap rs w) (k : Nat) : RI M ga gm b V w0 g0 n cap rs (w.drewN k) := by
  obtain ⟨h1, h2, h3, h4, h5, h6, h7⟩ := h
  exact ⟨h1.drewN _, h2.drewN _, h3.drewN _, h4.kp ((Kp.refl [] w).drewN _) (by simp) (by simp), h5.drewN _, h6.same ((Kp.refl [] w).drewN _) (by simp), h7⟩
theorem rowB_ign {p q : Bs → Bool} {m : Nat} {w : Bs} {xa xb : Bs} {rs : List Bs} (h : cutTo m w w.length = ⟨xa, xb, rs⟩) : rowB 13 p q m w = (p xa && rs.all (starB q)) := by
  simp [rowB, h]
theorem any_all (rs : List Bs) (p : Bs → Bool) : (rs.any fun r => !p r) = !rs.all p := by
  induction rs with
  | nil => rfl
  | cons r rs ih => simp [ih]
set_option maxRecDepth 100000 in
set_option maxHeartbeats 16000000 in
theorem rows_calls {M : Heap} {ga gm b b0 b1 c o bb L : Nat} (hL : L ≤ 10) {V : Nat → Bs → Bool} {num : Nat} {s : Bs} {n0 n1 : Nd} (hb : M b = some (.cells #[.int .i64 (num : Nat), .int .i64 13, .string (bs s), .slice (some ⟨bb, o, none⟩) 2 c] 118 (0, 0)))
    (h0 : cellM M ⟨bb, o, none⟩ = some (.pointer (some ⟨b0, 0, none⟩))) (h1 : cellM M ⟨bb, o + 1, none⟩ = some (.pointer (some ⟨b1, 0, none⟩)))
    (hs0 : HSp 38 M ga gm V n0 b0 L) (hs1 : HSp 38 M ga gm V n1 b1 L) (u : Bs) (w : World) (huL : u.length ≤ L) (hM : Mem w M) (hA : As w M ga gm V) :
    Calls Tryz.prog 123 #[.pointer (some ⟨ga, 0, none⟩), .pointer (some ⟨b, 0, none⟩), .string (bs u)] w (HE M ga gm V w (rowsB 13 (ev n0) (ev n1) u)) := by
  have hz := bs_size u
  have hu : u.length ≤ 10 := by omega
  obtain ⟨hga, hgm⟩ := hA.lt
  obtain ⟨N, hN⟩ : ∃ N : Nat, N = 2 ^ u.length := ⟨_, rfl⟩
  have hNi : (2 : Int) ^ u.length = (N : Int) := by rw [hN]; simp
  have hN1 : N ≤ 1024 := by rw [hN]; exact Nat.pow_le_pow_right (by omega) hu
  have HN := Hid.mk hN
  obtain ⟨i0, hi, hzz⟩ := Option.map_eq_some_iff.1 Tryz.infoS
  simp only [Prod.mk.injEq] at hzz
  obtain ⟨hz0, hz1, hz2⟩ := hzz
  have HI := Hid.mk (And.intro hi (And.intro hz0 (And.intro hz1 hz2)))
  have hcb1 : cellM M ⟨b, 1, none⟩ = some (.int .i64 13) := by simp [cellM, hb]
  have hcb : cellM M ⟨b, 3, none⟩ = some (.slice (some ⟨bb, o, none⟩) 2 c) := by simp [cellM, hb]
  obtain ⟨hx0, hx1⟩ := two_boxesH hM #[.pointer (some ⟨ga, 0, none⟩)] #[.pointer (some ⟨b, 0, none⟩)] 64 67
  have HB := Hid.mk hb
  have HX := Hid.mk (And.intro hx0 hx1)
  have H0 := Hid.mk h0
  have H1 := Hid.mk h1
  have HCB := Hid.mk (And.intro hcb1 hcb)
  clear hN hi hz0 hz1 hz2 hb hx0 hx1 h0 h1 hcb1 hcb
  go_enter Tryz.func123, Tryz.ntmps123
  go_wp2_with fail
  go_loopg [16] N (fun kk v wr => ∃ m : Nat, m ≤ N ∧ kk = N - m ∧ v = .int .i64 (m : Nat) ∧ Hid (∀ m', m' < m → rowB 13 (ev n0) (ev n1) m' u = false) ∧ Box wr M w.heap.size #[.pointer (some ⟨ga, 0, none⟩)] 64 ∧ Box wr M (w.heap.size + 1) #[.pointer (some ⟨b, 0, none⟩)] 67 ∧ Mem wr M ∧ As wr M ga gm V ∧ Kp [gm] w wr)
  case atStart => exact ⟨0, Nat.zero_le _, by simp, rfl, Hid.mk (fun _ h => by omega), HX.out.1, HX.out.2, (hM.alloc _).alloc _, (hA.alloc _).alloc _, ((Kp.refl _ _).alloc _).alloc _⟩
  case round =>
    obtain ⟨m, hm, hkk, rfl, HNO, hb59, hb62, hM', hA', hK⟩ := hrel
    by_cases hlt : m < N
    · have hlb := hb62.lt
      have HH := Hid.mk (And.intro hb59 (And.intro hb62 (And.intro hM' (And.intro hA' hK))))
      clear hb59 hb62 hM' hA' hK
      go_wp2_with fail
      have hsl0 : Sl (wr.alloc (.cells #[.string ⟨#[]⟩] 9)) M 9 1 wr.heap.size 1 1 (strs [[]]) := Sl.lit (heap_alloc_new _ _) HH.out.2.2.1.new rfl (by unfold maxLen; simp)
      generalize hgs : wr.heap.size = gs at *
      clear hgs
      have HS0 := Hid.mk hsl0
      clear hsl0
      go_loopg [8, 9, 10, 22] u.length (fun kk v8 v9 v10 v wy => ∃ (i g0 cap : Nat) (xa xb : Bs) (is : List Bs) (lr : Bs), i ≤ u.length ∧ kk = u.length - i ∧ v = .int .i64 (i : Nat) ∧ v8 = .string (bs xa) ∧ v9 = .string (bs xb) ∧ v10 = .slice (some ⟨g0, 0, none⟩) (is.length + 1) cap ∧ Hid (cutTo m u i = ⟨xa, xb, is ++ [lr]⟩) ∧ Hid (RI M ga gm b V w g0 (is.length + 1) cap (is ++ [lr]) wy))
      case atStart =>
        refine ⟨0, gs, 1, [], [], [], [], Nat.zero_le _, by simp, rfl, rfl, rfl, rfl, Hid.mk rfl, Hid.mk ⟨HH.out.1.alloc _, HH.out.2.1.alloc _, HH.out.2.2.1.alloc _, HH.out.2.2.2.1.alloc _, HH.out.2.2.2.2.alloc _, HS0.out, hlb⟩⟩
      case round =>
        clear HH HS0
        obtain ⟨i, g0, cap, xa, xb, is, lr, hi, hkk2, rfl, rfl, rfl, rfl, HC, HR⟩ := hrel
        have hok := cutTo_ok m u i
        rw [HC.out] at hok
        obtain ⟨hl1, ⟨is', lr', hl2, hl3⟩, hl4⟩ := hok
        have hl5 : is.length = xa.length := by
          have := congrArg List.length hl2
          simp only [List.length_append, List.length_singleton] at this
          simp only at hl3; omega
        have hl6 : lr.length ≤ i := hl4 lr (by simp)
        simp only at hl1
        have hl7 : is.length ≤ 10 := by omega
        have HL5 := Hid.mk hl5
        clear hl2 hl3 hl5
        have HL4 := Hid.mk hl4
        clear hl4
        have hza := bs_size xa
        have hzb := bs_size xb
        have hzl := bs_size lr
        by_cases hin : i < u.length
        · have hbit := bit_is m i (by omega)
          have hone := part_one hin
          have hstep : cutTo m u (i + 1) = cutAdd m i (u.getD i 0) ⟨xa, xb, is ++ [lr]⟩ := by rw [cutTo, HC.out]
          generalize u.getD i 0 = c0 at hone hstep
          have hext : (bs u).extract i (i + 1) = bs [c0] := by rw [bs_extract, hone]
          have hzc := bs_size [c0]
          have hca := bs_cat xa [c0]
          have hcb := bs_cat xb [c0]
          have hcl := bs_cat lr [c0]
          by_cases hd : (m >>> i) % 2 = 0
          · rw [hd] at hbit
            rw [cut_zero hd] at hstep
            have HST := Hid.mk hstep
            have hbig : (is.length + 1 + 1 ≤ maxLen) ∧ (is.length + 1 + 1) * 16 ≤ 140737488355328 := by unfold maxLen; omega
            have HBG := Hid.mk hbig
            clear hstep hone hd hbig
            go_wp2_with (at_builtin; go_must (refine wpList_append_lies _ rfl (.tmp 37) (.tmp 38) 25 rfl 0 9 i0 _ 1 16 Tryz.underlying25 HI.out.1 HI.out.2.1 HI.out.2.2.1 HI.out.2.2.2 rfl (Nat.succ_pos 0) _ (is.length + 1) (strs (is ++ [lr])) rfl (HR.out.2.2.2.2.2.1.alloc _).own ⟨wr.heap.size, 0, none⟩ 1 1 [.string ⟨#[]⟩] rfl rfl (str_cells (heap_alloc_new _ _)) str_one Nat.one_pos HBG.out.1 HBG.out.2 (Nat.zero_le _) (wr.heap.size + 1) (by simp) ?_); intro g1 cap1 w5 hown5 hgr5 hat5 hlt5)
            have hk5 := Kp.of_grown hgr5
            have hat' : (some g0 : Option Nat) = some g1 ∨ g1 = wr.heap.size + 1 := hat5
            clear hat5
            simp only [Option.some.injEq] at hat'
            obtain ⟨r1, r2, r3, r4, r5, r6, r7⟩ := HR.out
            have hlt6 := r6.lt
            have hlt1 := r2.lt
            go_roundg (u.length - (i + 1))
            case measure => omega
            case rel =>
              refine ⟨i + 1, g1, cap1, xa ++ [c0], xb, is ++ [lr], [], by omega, rfl, by go_num, rfl, rfl, by simp, Hid.mk HST.out, Hid.mk ⟨(r1.alloc _).same hk5 (by simp; omega), (r2.alloc _).same hk5 (by simp; omega), (r3.alloc _).kp hk5 (by simpa using r6.out), (r4.alloc _).kp hk5 (by simp; omega) (by simp; omega), (r5.alloc _).inner hk5 (by simp; omega), ⟨?_, ?_⟩, ?_⟩⟩
              · have e : strs (is ++ [lr] ++ [[]]) = strs (is ++ [lr]) ++ [.string ⟨#[]⟩] := by simp [strs]; rfl
                rw [e, List.length_append, List.length_singleton]
                exact hown5
              · rcases hat' with h | h
                · rw [← h]; exact r6.out
                · rw [h]; exact r3.ge (by omega)
              · omega
          · have hd1 : (m >>> i) % 2 = 1 := by omega
            rw [hd1] at hbit
            rw [cut_one hd] at hstep
            have HST := Hid.mk hstep
            have q := HR.out.2.2.2.2.2.1.cell (j := is.length) (v := .string (bs lr)) (by simp [strs])
            have fz := sl_free (k := is.length) HR.out.2.2.2.2.2.1
            clear hstep hone hd hd1
            go_wp2_with fail
            go_region
            go_wp2_with fail
            obtain ⟨r1, r2, r3, r4, r5, r6, r7⟩ := HR.out
            have hks : Kp [g0] wr (wr.setCell ⟨g0, is.length, none⟩ (.string (bs (lr ++ [c0])))).drew := ((Kp.refl [g0] wr).setCell (.inl (by simp)) _).drew
            have hlt6 := r6.lt
            go_roundg (u.length - (i + 1))
            case measure => omega
            case rel =>
              refine ⟨i + 1, g0, cap, xa, xb ++ [c0], is, lr ++ [c0], by omega, rfl, by go_num, rfl, rfl, rfl, Hid.mk HST.out, Hid.mk ⟨r1.same hks (by simp; omega), r2.same hks (by simp; omega), r3.kp hks (by simpa using r6.out), r4.kp hks (by simp; omega) (by simp; omega), r5.inner hks (by simp; omega), ?_, r7⟩⟩
              have h := (sl_set (k := is.length) (v := .string (bs (lr ++ [c0]))) r6 (by omega)).same ((Kp.refl [] _).drew) (by simp)
              have e : (strs (is ++ [lr])).set is.length (.string (bs (lr ++ [c0]))) = strs (is ++ [lr ++ [c0]]) := by simp [strs]
              rw [e] at h
              exact h
        · obtain rfl : i = u.length := by omega
          have hnlt : ¬ ((u.length : Int) < (u.length : Int)) := by omega
          have HRB := Hid.mk (rowB_ign (p := ev n0) (q := ev n1) HC.out)
          have q0 : wr.cell? ⟨w.heap.size, 0, none⟩ = some (.pointer (some ⟨ga, 0, none⟩)) := HR.out.1.cell 0
          have q1 : wr.cell? ⟨w.heap.size + 1, 0, none⟩ = some (.pointer (some ⟨b, 0, none⟩)) := HR.out.2.1.cell 0
          have q2 := HR.out.2.2.1.cell HCB.out.2
          have q3 := HR.out.2.2.1.cell H0.out
          cases hr : ev n0 xa with
          | false =>
            have HRR := Hid.mk hr
            go_wp2_with fail
            go_region_held3 (fun w' => w'.cell? ⟨w.heap.size, 0, none⟩ = some (.pointer (some ⟨ga, 0, none⟩)) ∧ w'.cell? ⟨w.heap.size + 1, 0, none⟩ = some (.pointer (some ⟨b, 0, none⟩)) ∧ w'.cell? ⟨b, 3, none⟩ = some (.slice (some ⟨bb, o, none⟩) 2 c) ∧ w'.cell? ⟨bb, o, none⟩ = some (.pointer (some ⟨b0, 0, none⟩))) (go_keep) (first | (go_at_call 38; refine (hs0 xa wr.drew (by omega) HR.out.2.2.1.drew (HR.out.drew hgm).2.2.2.1).mono ?_; rintro e w2 ⟨rfl, hM2, hA2, hk2⟩; have HZ := Hid.mk ((HR.out.drew hgm).turn hgm hM2 hA2 hk2); have z0 : w2.cell? ⟨w.heap.size, 0, none⟩ = some (.pointer (some ⟨ga, 0, none⟩)) := HZ.out.1.cell 0; have z1 : w2.cell? ⟨w.heap.size + 1, 0, none⟩ = some (.pointer (some ⟨b, 0, none⟩)) := HZ.out.2.1.cell 0; have z2 := HZ.out.2.2.1.cell HCB.out.2; have z3 := HZ.out.2.2.1.cell H0.out; clear hM2 hA2 hk2))
            go_wp2_with fail
            go_roundg (N - (m + 1))
            case measure => omega
            case rel =>
              refine ⟨m + 1, by omega, rfl, by go_num, Hid.mk (fun m' hm' => ?_), HZ.out.1, HZ.out.2.1, HZ.out.2.2.1, HZ.out.2.2.2.1, HZ.out.2.2.2.2.1⟩
              rcases Nat.lt_or_ge m' m with h | h
              · exact HNO.out m' h
              · obtain rfl : m' = m := by omega
                rw [HRB.out, HRR.out]; rfl
          | true =>
            have HRR := Hid.mk hr
            go_wp2_with fail
            go_region_held3 (fun w' => w'.cell? ⟨w.heap.size, 0, none⟩ = some (.pointer (some ⟨ga, 0, none⟩)) ∧ w'.cell? ⟨w.heap.size + 1, 0, none⟩ = some (.pointer (some ⟨b, 0, none⟩)) ∧ w'.cell? ⟨b, 3, none⟩ = some (.slice (some ⟨bb, o, none⟩) 2 c) ∧ w'.cell? ⟨bb, o, none⟩ = some (.pointer (some ⟨b0, 0, none⟩))) (go_keep) (first | (go_at_call 38; refine (hs0 xa wr.drew (by omega) HR.out.2.2.1.drew (HR.out.drew hgm).2.2.2.1).mono ?_; rintro e w2 ⟨rfl, hM2, hA2, hk2⟩; have HZ := Hid.mk ((HR.out.drew hgm).turn hgm hM2 hA2 hk2); have z0 : w2.cell? ⟨w.heap.size, 0, none⟩ = some (.pointer (some ⟨ga, 0, none⟩)) := HZ.out.1.cell 0; have z1 : w2.cell? ⟨w.heap.size + 1, 0, none⟩ = some (.pointer (some ⟨b, 0, none⟩)) := HZ.out.2.1.cell 0; have z2 := HZ.out.2.2.1.cell HCB.out.2; have z3 := HZ.out.2.2.1.cell H0.out; clear hM2 hA2 hk2))
            have z4 := HZ.out.2.2.1.cell HCB.out.1
            go_wp2_with fail
            go_quiet (fail)
            go_wp2_with fail
            have hCF := ContainsFuncI_calls (K := 176) (p := fun r => !starB (ev n1) r) (cap := #[.pointer (some ⟨w.heap.size, 0, none⟩), .pointer (some ⟨w.heap.size + 1, 0, none⟩)]) (I := RI M ga gm b V w g0 (is.length + 1) cap (is ++ [lr])) (ws := is ++ [lr]) (b := g0) (o := 0) (fun s w => by kernel_rfl)
              (fun r w' hr hI => rows1_calls (by omega) hgm HB.out H1.out hs1 r (by have := HL4.out r hr; omega) w' hI)
              (fun w' hI j hj => by rw [Nat.zero_add]; exact hI.2.2.2.2.2.1.cell (by simp only [strs, List.getElem?_map, List.getElem?_eq_getElem hj, Option.map_some])) cap _ (HZ.out.drewN nq) (by simp; omega) (by obtain ⟨cur, sp, _, h, _⟩ := HZ.out.2.2.2.2.2.1.cells; simp; omega)
            rw [any_all, show (is ++ [lr]).length = is.length + 1 by simp] at hCF
            refine hCF.mono ?_
            rintro e w5 ⟨rfl, hI5⟩
            have HI5 := Hid.mk hI5
            clear hI5 hCF
            cases ha : (is ++ [lr]).all (starB (ev n1)) with
            | true =>
              have HX := Hid.mk (rowsB_yes (op := 13) (p := ev n0) (q := ev n1) (w := u) (m := m) (by rw [← HN.out]; exact hlt) (by rw [HRB.out, HRR.out, ha]; rfl))
              go_wp2_with fail
              go_ret
              exact ⟨ret_bool HX.out.symm, HI5.out.2.2.1, HI5.out.2.2.2.1, HI5.out.2.2.2.2.1⟩
            | false =>
              have HAA := Hid.mk ha
              go_wp2_with fail
              go_roundg (N - (m + 1))
              case measure => omega
              case rel =>
                refine ⟨m + 1, by omega, rfl, by go_num, Hid.mk (fun m' hm' => ?_), HI5.out.1, HI5.out.2.1, HI5.out.2.2.1, HI5.out.2.2.2.1, HI5.out.2.2.2.2.1⟩
                rcases Nat.lt_or_ge m' m with h | h
                · exact HNO.out m' h
                · obtain rfl : m' = m := by omega
                  rw [HRB.out, HRR.out, HAA.out]; rfl
    · obtain rfl : m = N := by omega
      have hno := HNO.out
      rw [HN.out] at hno
      have HX := Hid.mk (rowsB_no hno)
      clear hno
      go_wp2_with fail
      go_ret
      exact ⟨ret_bool HX.out.symm, hM', hA', hK⟩
end Go.Proofs.YtgdnhlckodhhgaaGreatDoor
