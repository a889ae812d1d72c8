/-
  The reference's asker: isChain.
-/
import Derived.Test.YtgdnhlckodhhgaaGreatDoorJVG
import Derived.Test.YtgdnhlckodhhgaaGreatDoorJVH
import Derived.Test.YtgdnhlckodhhgaaGreatDoorJH
namespace Go.Proofs.YtgdnhlckodhhgaaGreatDoor
open Go.RowKit
set_option linter.unusedVariables false
set_option linter.unusedSimpArgs false
set_option maxRecDepth 100000 in
set_option maxHeartbeats 4000000 in
theorem rAchain_some {ga gm gi n cap L ck : Nat} {V : Bs → Bool} {l : List E} {A : Option Addr} {kj : Nat → Nat} (hL : L ≤ 60) (M : Heap) (hrow : ∀ j, (h : j < l.length) → ∃ bb o, A = some ⟨bb, o, none⟩ ∧ cellM M ⟨bb, o + j, none⟩ = some (.int .i64 (kj j : Nat)))
    (hk : ∀ j, (h : j < l.length) → RH ga gm gi n cap V L (kj j) l[j]) (hrn : ∀ j, (h : j < l.length) → RN M gi n (kj j) l[j]) (hl : l.length ≤ 1000000) (u : List Bs) (b ob c : Nat) (w : World) (hcell : ∀ j, (h : j < u.length) → cellM M ⟨b, ob + j, none⟩ = some (.string (bs u[j]))) (hc : u.length ≤ c) (hok : OkW L u) (hM : Mem w M) (hA : AsR w M ga gm gi n cap V) :
    Calls Tryz.prog 129 #[.pointer (some ⟨ga, 0, none⟩), .slice A l.length ck, .slice (some ⟨b, ob, none⟩) u.length c] w (HR M ga gm gi n cap V w (chainB (revs l) u)) := by
  have hul : u.length ≤ 60 := Nat.le_trans hok.1 hL
  have HXC := Hid.mk (fun j (h : j < l.length) i m w => (hk j h).cut (hrn j h) hcell hok i m w)
  have HX0C := Hid.mk (fun j (h : j < l.length) w => (hk j h).cut0 (b := b) (o := ob) (hrn j h) w)
  clear hcell hok hrn
  have hmk := make_bools u.length (by omega)
  obtain ⟨hga, hgm⟩ := hA.lt
  have hb0 := Box.new hM (bl (fun _ => false) u.length) 4
  have e0 : (w.alloc (.cells (bl (fun _ => false) u.length) 4)).cell? ⟨w.heap.size, 0, none⟩ = some (.bool false) := (hb0.cell 0).trans (bl_get (Nat.zero_le _))
  have e1 : (w.alloc (.cells (bl (fun _ => false) u.length) 4)).frozen? ⟨w.heap.size, 0, none⟩ = false := hb0.free 0
  have HRW := Hid.mk hrow
  have HK := Hid.mk hk
  have HMK := Hid.mk hmk
  have HEV := Hid.mk (chainB_eq (revs l) u)
  clear hrow hk
  go_enter Tryz.func129, Tryz.ntmps129
  go_wp2_with fail
  have hst : (bl (fun _ => false) u.length).setIfInBounds 0 (.bool true) = bl (Cf u ((revs l).take 0) begF) u.length := by
    rw [bl_set]
    exact bl_ext (fun m _ => by simp only [List.take_zero, Cf, begF]; by_cases h : m = 0 <;> simp [h])
  rw [hst]
  clear e0 e1 hb0 hst hmk
  go_loopg [7, 8] l.length (fun kk v7 v wr => ∃ (j he : Nat), j ≤ l.length ∧ kk = l.length - j ∧ v7 = .slice (some ⟨he, 0, none⟩) (u.length + 1) (u.length + 1) ∧ v = .int .i64 (j : Nat) ∧ w.heap.size ≤ he ∧ Box wr M he (bl (Cf u ((revs l).take j) begF) u.length) 4 ∧ Mem wr M ∧ AsR wr M ga gm gi n cap V ∧ Kp [gm] w wr)
  case atStart => exact ⟨0, w.heap.size, Nat.zero_le _, by simp, rfl, rfl, Nat.le_refl _, Box.new hM _ _, hM.alloc _, hA.kp ((Kp.refl [] _).alloc _) (by simp) (by simp), (Kp.refl _ _).alloc _⟩
  case round =>
    obtain ⟨j, he, hj, hkk, rfl, rfl, hhe, hb, hM', hA', hK⟩ := hrel
    by_cases hlt : j < l.length
    · obtain ⟨bb, o, rfl, hcell⟩ := HRW.out j hlt
      have HCELL := Hid.mk hcell
      have hmk := HMK.out
      have HC := Hid.mk (HK.out j hlt)
      have HT : Hid (Cf u ((revs l).take (j + 1)) begF = stepF (rev l[j]) u (Cf u ((revs l).take j) begF)) := Hid.mk (by
        have hj2 : j < (revs l).length := by rw [revs_map, List.length_map]; exact hlt
        rw [← List.take_append_getElem hj2, Cf_snoc]
        congr 1
        simp [revs_map])
      generalize Cf u ((revs l).take j) begF = F at *
      generalize hpe : rev l[j] = P1 at *
      have HP1 := Hid.mk hpe
      clear hpe
      obtain ⟨hga1, hgm1⟩ := hA'.lt
      have hsz := hK.size
      have hb9 := Box.new hM' (bl (Cs P1 u F 0) u.length) 4
      have hne9 : he ≠ wr.heap.size := Nat.ne_of_lt hb.lt
      have hz0 : bl (fun _ => false) u.length = bl (Cs P1 u F 0) u.length := bl_ext (fun m _ => (Cs_zero _ _ _ _).symm)
      rw [hz0] at hmk
      have HH := Hid.mk (And.intro (hb.alloc (.cells (bl (Cs P1 u F 0) u.length) 4)) (And.intro (hM'.alloc (.cells (bl (Cs P1 u F 0) u.length) 4)) (And.intro (hA'.kp ((Kp.refl [] _).alloc (.cells (bl (Cs P1 u F 0) u.length) 4)) (by simp) (by simp)) (And.intro (hK.alloc (.cells (bl (Cs P1 u F 0) u.length) 4)) hb9))))
      have hheb := hb.lt
      clear hb hM' hA' hK hb9 hcell
      go_wp2_with fail
      generalize hhn : wr.heap.size = hn at *
      clear hhn
      go_loopg [10] (u.length + 1) (fun kk v wy => ∃ i : Nat, i ≤ u.length + 1 ∧ kk = u.length + 1 - i ∧ v = .int .i64 (i : Nat) ∧ Box wy M he (bl F u.length) 4 ∧ Box wy M hn (bl (Cs P1 u F i) u.length) 4 ∧ Mem wy M ∧ AsR wy M ga gm gi n cap V ∧ Kp [gm] w wy)
      case atStart =>
        obtain ⟨hb, hM', hA', hK, hb9⟩ := HH.out
        exact ⟨0, Nat.zero_le _, by simp, rfl, hb, hb9, hM', hA', hK⟩
      case round =>
        obtain ⟨i, hi, hkk2, rfl, hbe, hbn, hM2, hA2, hK2⟩ := hrel
        by_cases hin : i ≤ u.length
        · have hlt3 : (i : Int) ≤ (u.length : Int) := by omega
          have hlt4 : (i : Int) < (u.length : Int) + 1 := by omega
          have qi := (hbe.cell i).trans (bl_get hin)
          have HB := Hid.mk (And.intro hbe (And.intro hbn (And.intro hM2 (And.intro hA2 hK2))))
          clear hbe hbn hM2 hA2 hK2
          have hFi : ∃ fi, fi = F i := ⟨_, rfl⟩
          obtain ⟨fi, hFi⟩ := hFi
          rw [← hFi] at qi
          have HFi := Hid.mk hFi
          clear hFi
          go_wp2_with fail
          go_loopg [11] (u.length + 1 - i) (fun kk v wz => ∃ k : Nat, i ≤ k ∧ k ≤ u.length + 1 ∧ kk = u.length + 1 - k ∧ v = .int .i64 (k : Nat) ∧ Box wz M he (bl F u.length) 4 ∧ Box wz M hn (bl (fun m => if m < k then Cs P1 u F (i + 1) m else Cs P1 u F i m) u.length) 4 ∧ Mem wz M ∧ AsR wz M ga gm gi n cap V ∧ Kp [gm] w wz)
          case atStart =>
            obtain ⟨hbe, hbn, hM2, hA2, hK2⟩ := HB.out
            refine ⟨i, Nat.le_refl _, by omega, by omega, by go_num, hbe, ?_, hM2, hA2, hK2⟩
            rw [bl_ext (g := Cs P1 u F i)]
            · exact hbn
            · intro m _
              split
              · exact Cs_keep _ _ _ (by omega)
              · rfl
          case round =>
            clear HB qi
            obtain ⟨k, hk1, hk2, hkk3, rfl, hbe, hby, hMy, hAy, hKy⟩ := hrel
            have qi := (hbe.cell i).trans (bl_get hin)
            rw [← HFi.out] at qi
            cases fi with
            | false =>
              have HB := Hid.mk (And.intro hbe (And.intro hby (And.intro hMy (And.intro hAy hKy))))
              clear hbe hby hMy hAy hKy
              go_wp2_with fail
              go_roundg (u.length + 1 - (i + 1))
              case measure => omega
              case rel =>
                obtain ⟨hbe, hby, hMy, hAy, hKy⟩ := HB.out
                refine ⟨i + 1, by omega, rfl, by go_num, hbe, ?_, hMy, hAy, hKy⟩
                rw [bl_ext (g := Cs P1 u F (i + 1))] at hby
                · exact hby
                · intro m _
                  split
                  · rfl
                  · exact (Cs_no _ _ _ HFi.out.symm).symm
            | true =>
              by_cases hkn : k ≤ u.length
              · have qk := (hby.cell k).trans (bl_get hkn)
                rw [if_neg (show ¬ k < k by omega)] at qk
                have fk := hby.free k
                cases hV : Cs P1 u F i k with
                | true =>
                  rw [hV] at qk
                  have HV := Hid.mk hV
                  have HB := Hid.mk (And.intro hbe (And.intro hby (And.intro hMy (And.intro hAy hKy))))
                  clear hV hbe hby hMy hAy hKy
                  go_upto_region 13 with fail
                  go_region
                  go_wp2_with fail
                  go_roundg (u.length + 1 - (k + 1))
                  case measure => omega
                  case rel =>
                    obtain ⟨hbe, hby, hMy, hAy, hKy⟩ := HB.out
                    have hks : Kp [hn] wr (wr.setCell ⟨hn, k, none⟩ (.bool true)).drew := ((Kp.refl _ _).setCell (.inl (by simp)) _).drew
                    have hb2 := hby.set k (.bool true)
                    rw [bl_set, bl_ext (g := fun m => if m < k + 1 then Cs P1 u F (i + 1) m else Cs P1 u F i m)] at hb2
                    · exact ⟨k + 1, by omega, by omega, rfl, by go_num, hbe.same hks (by simpa using hne9), hb2.drew, hMy.kp hks (by simpa using hby.out), hAy.kp hks (by simp; omega) (by simp; omega), (hKy.setCell (.inr (by simp; omega)) _).drew⟩
                    · intro m _
                      rcases Nat.lt_trichotomy m k with h | h | h
                      · rw [if_neg (by omega), if_pos h, if_pos (by omega)]
                      · subst h
                        rw [if_pos rfl, if_pos (by omega), Cs_step _ _ _ (by omega), HV.out]; rfl
                      · rw [if_neg (by omega), if_neg (by omega), if_neg (by omega)]
                | false =>
                  rw [hV] at qk
                  have HV := Hid.mk hV
                  obtain ⟨τ, W, x0, hx0', hC, hin2⟩ := class_of (fun w' => Mem w' M ∧ AsR w' M ga gm gi n cap V ∧ Kp [gm] w w' ∧ Box w' M he (bl F u.length) 4 ∧ Box w' M hn (bl (fun m => if m < k then Cs P1 u F (i + 1) m else Cs P1 u F i m) u.length) 4) (w := wr.drew) ⟨hMy.drew, hAy.kp ((Kp.refl [] _).drew) (by simp) (by simp), hKy.drew, hbe.drew, hby.drew⟩
                  have hne : Nonempty τ := ⟨x0⟩
                  have hgm9 : gm < he := by omega
                  have hgm8 : gm < hn := by omega
                  have d0 : ∀ x, (W x).cell? ⟨bb, o + j, none⟩ = some (.int .i64 (kj j : Nat)) := fun x => (hC x).1.cell HCELL.out
                  have d1 : ∀ x, (W x).cell? ⟨hn, k, none⟩ = some (.bool false) := fun x => by
                    have := ((hC x).2.2.2.2.cell k).trans (bl_get hkn)
                    rw [if_neg (show ¬ k < k by omega), HV.out] at this
                    exact this
                  have d2 : ∀ x, (W x).frozen? ⟨hn, k, none⟩ = false := fun x => (hC x).2.2.2.2.free k
                  have hP5 : ∃ v5, v5 = P1 (part u i k) := ⟨_, rfl⟩
                  obtain ⟨v5, hP5⟩ := hP5
                  have HP5 := Hid.mk hP5
                  have HC2 := Hid.mk hC
                  have HIN := Hid.mk hin2
                  have HX0 := Hid.mk hx0'
                  have hkc : (k : Int) ≤ (c : Int) := by omega
                  have hki : (i : Int) ≤ (k : Int) := by omega
                  have huc : (u.length : Int) ≤ (c : Int) := by omega
                  have hmono : ∀ x e w5, HR M ga gm gi n cap V (W x) v5 e w5 → e = .returned (.bool v5) ∧ ∃ x, w5 = W x := fun x e w5 h => by
                    obtain ⟨rfl, hM5, hA5, hk5⟩ := h
                    exact ⟨rfl, HIN.out _ ⟨hM5, hA5, (HC2.out x).2.2.1.trans hk5, (HC2.out x).2.2.2.1.same hk5 (by simp; omega), (HC2.out x).2.2.2.2.same hk5 (by simp; omega)⟩⟩
                  have HMO := Hid.mk hmono
                  clear hV hbe hby hMy hAy hKy hC hin2 hx0' hP5 hmono qk fk
                  by_cases hz : i = k
                  · have HP : Hid (∀ x, Calls Tryz.prog 50 #[.pointer (some ⟨ga, 0, none⟩), .int .i64 (kj j : Nat), .slice (some ⟨b, ob, none⟩) 0 0] (W x) (fun e w' => e = .returned (.bool v5) ∧ ∃ x, w' = W x)) := Hid.mk (fun x => by
                      have H := HX0C.out j hlt (W x) (HC2.out x).1 (HC2.out x).2.1
                      have e5 : P1 [] = v5 := by rw [HP5.out, ← hz, part_self]
                      rw [HP1.out, e5] at H
                      exact H.mono (HMO.out x))
                    clear HMO
                    subst hz
                    go_wp2_with fail
                    refine wp_region_cls_tail W 20 x0 HX0.out (by kernel_rfl) (by kernel_rfl) ?_
                    simp only [List.take_succ_cons, List.take_zero, List.drop_succ_cons, List.drop_zero]
                    repeat (go_big_quiet_step (first | (go_at_call 50; exact HP.out _) | fail))
                    refine wpQuiet_nil ?_
                    rintro _ ⟨x, rfl⟩
                    have HZ := Hid.mk (HC2.out x)
                    have d1 := d1 x
                    have d2 := d2 x
                    clear HP HC2 HIN HX0 d0 qi
                    go_wp2_with fail
                    go_roundg (u.length + 1 - (i + 1))
                    case measure => omega
                    case rel =>
                      obtain ⟨hMy, hAy, hKy, hbe, hby⟩ := HZ.out
                      have hks : Kp [hn] (W x) ((W x).setCell ⟨hn, i, none⟩ (.bool v5)) := (Kp.refl _ _).setCell (.inl (by simp)) _
                      have hb2 := hby.set i (.bool v5)
                      rw [bl_set, bl_ext (g := fun m => if m < i + 1 then Cs P1 u F (i + 1) m else Cs P1 u F i m)] at hb2
                      · exact ⟨i + 1, by omega, by omega, rfl, by go_num, hbe.same hks (by simpa using hne9), hb2, hMy.kp hks (by simpa using hby.out), hAy.kp hks (by simp; omega) (by simp; omega), hKy.setCell (.inr (by simp; omega)) _⟩
                      · intro m _
                        rcases Nat.lt_trichotomy m i with h | h | h
                        · rw [if_neg (by omega), if_pos h, if_pos (by omega)]
                        · subst h
                          rw [if_pos rfl, if_pos (by omega), Cs_step _ _ _ (by omega), HV.out, ← HFi.out, HP5.out]; simp
                        · rw [if_neg (by omega), if_neg (by omega), if_neg (by omega)]
                  · have HP : Hid (∀ x, Calls Tryz.prog 50 #[.pointer (some ⟨ga, 0, none⟩), .int .i64 (kj j : Nat), .slice (some ⟨b, ob + i, none⟩) (k - i) (k - i)] (W x) (fun e w' => e = .returned (.bool v5) ∧ ∃ x, w' = W x)) := Hid.mk (fun x => by
                      have H := HXC.out j hlt i k (W x) hk1 hkn (HC2.out x).1 (HC2.out x).2.1
                      rw [HP1.out, ← HP5.out] at H
                      exact H.mono (HMO.out x))
                    clear HMO
                    have h1 : ¬ k = i := by omega
                    have h2 : ¬ (i : Int) = (k : Int) := by omega
                    have h3 : ¬ (k : Int) - (i : Int) = 0 := by omega
                    have h4 : ¬ (k : Int) = (i : Int) := by omega
                    have h5 : (i : Int) < (k : Int) := by omega
                    have h6 : ¬ k - i = 0 := by omega
                    go_wp2_with fail
                    refine wp_region_cls_tail W 20 x0 HX0.out (by kernel_rfl) (by kernel_rfl) ?_
                    simp only [List.take_succ_cons, List.take_zero, List.drop_succ_cons, List.drop_zero]
                    repeat (go_big_quiet_step (first | (go_at_call 50; exact HP.out _) | fail))
                    refine wpQuiet_nil ?_
                    rintro _ ⟨x, rfl⟩
                    have HZ := Hid.mk (HC2.out x)
                    have d1 := d1 x
                    have d2 := d2 x
                    clear HP HC2 HIN HX0 d0 qi
                    go_wp2_with fail
                    go_roundg (u.length + 1 - (k + 1))
                    case measure => omega
                    case rel =>
                      obtain ⟨hMy, hAy, hKy, hbe, hby⟩ := HZ.out
                      have hks : Kp [hn] (W x) ((W x).setCell ⟨hn, k, none⟩ (.bool v5)) := (Kp.refl _ _).setCell (.inl (by simp)) _
                      have hb2 := hby.set k (.bool v5)
                      rw [bl_set, bl_ext (g := fun m => if m < k + 1 then Cs P1 u F (i + 1) m else Cs P1 u F i m)] at hb2
                      · exact ⟨k + 1, by omega, by omega, rfl, by go_num, hbe.same hks (by simpa using hne9), hb2, hMy.kp hks (by simpa using hby.out), hAy.kp hks (by simp; omega) (by simp; omega), hKy.setCell (.inr (by simp; omega)) _⟩
                      · intro m _
                        rcases Nat.lt_trichotomy m k with h | h | h
                        · rw [if_neg (by omega), if_pos h, if_pos (by omega)]
                        · subst h
                          rw [if_pos rfl, if_pos (by omega), Cs_step _ _ _ (by omega), HV.out, ← HFi.out, HP5.out]; simp
                        · rw [if_neg (by omega), if_neg (by omega), if_neg (by omega)]
              · have hk9 : k = u.length + 1 := by omega
                have hlt2 : ¬ ((k : Int) ≤ (u.length : Int)) := by omega
                have HB := Hid.mk (And.intro hbe (And.intro hby (And.intro hMy (And.intro hAy hKy))))
                clear hbe hby hMy hAy hKy
                go_wp2_with fail
                go_roundg (u.length + 1 - (i + 1))
                case measure => omega
                case rel =>
                  obtain ⟨hbe, hby, hMy, hAy, hKy⟩ := HB.out
                  refine ⟨i + 1, by omega, rfl, by go_num, hbe, ?_, hMy, hAy, hKy⟩
                  rw [bl_ext (g := Cs P1 u F (i + 1))] at hby
                  · exact hby
                  · intro m hm
                    rw [if_pos (by omega)]
        · obtain rfl : i = u.length + 1 := by omega
          have hlt2 : ¬ ((u.length : Int) + 1 < (u.length : Int) + 1) := by omega
          have HB := Hid.mk (And.intro hbn (And.intro hM2 (And.intro hA2 hK2)))
          clear hbe hbn hM2 hA2 hK2
          go_wp2_with fail
          go_roundg (l.length - (j + 1))
          case measure => omega
          case rel =>
            obtain ⟨hbn, hM2, hA2, hK2⟩ := HB.out
            refine ⟨j + 1, hn, by omega, rfl, rfl, by go_num, by omega, ?_, hM2, hA2, hK2⟩
            rw [HT.out]
            rw [bl_ext (g := stepF P1 u F)] at hbn
            · exact hbn
            · intro m hm
              exact Cs_full _ _ _ (by omega)
    · obtain rfl : j = l.length := by omega
      have hlt' : ¬ ((l.length : Int) < (l.length : Int)) := by omega
      have q := (hb.cell u.length).trans (bl_get (Nat.le_refl _))
      have HF : Hid (Cf u ((revs l).take l.length) begF u.length = chainB (revs l) u) := Hid.mk (by
        rw [HEV.out, show (revs l).take l.length = revs l by rw [List.take_of_length_le]; rw [revs_map, List.length_map]; exact Nat.le_refl _])
      go_wp2_with fail
      go_ret
      exact ⟨ret_bool HF.out, hM', hA', hK⟩
end Go.Proofs.YtgdnhlckodhhgaaGreatDoor

/-
  The reference's asker: isChain, of whatever word.
-/
namespace Go.Proofs.YtgdnhlckodhhgaaGreatDoor
open Go.RowKit
set_option linter.unusedVariables false
set_option linter.unusedSimpArgs false
theorem chain_nil_step (l : List E) (j : Nat) (h : j < l.length) : Cf [] ((revs l).take (j + 1)) begF 0 = (Cf [] ((revs l).take j) begF 0 && rev l[j] []) := by
  have hj2 : j < (revs l).length := by rw [revs_map, List.length_map]; exact h
  rw [← List.take_append_getElem hj2, Cf_snoc]
  have e1 : (revs l)[j] = rev l[j] := by simp [revs_map]
  rw [e1]
  simp [stepF, part]
theorem chain_nil_all (l : List E) : chainB (revs l) [] = Cf [] ((revs l).take l.length) begF 0 := by
  rw [chainB_eq, List.take_of_length_le (by rw [revs_map, List.length_map]; exact Nat.le_refl _)]
  rfl
set_option maxRecDepth 100000 in
set_option maxHeartbeats 2000000 in
theorem rAchain_nil {ga gm gi n cap L ck c : Nat} {V : Bs → Bool} {l : List E} {A : Option Addr} {kj : Nat → Nat} (M : Heap) (hrow : ∀ j, (h : j < l.length) → ∃ bb o, A = some ⟨bb, o, none⟩ ∧ cellM M ⟨bb, o + j, none⟩ = some (.int .i64 (kj j : Nat)))
    (hk : ∀ j, (h : j < l.length) → RH ga gm gi n cap V L (kj j) l[j]) (hrn : ∀ j, (h : j < l.length) → RN M gi n (kj j) l[j]) (hl : l.length ≤ 1000000) (w : World) (hM : Mem w M) (hA : AsR w M ga gm gi n cap V) :
    Calls Tryz.prog 129 #[.pointer (some ⟨ga, 0, none⟩), .slice A l.length ck, .slice none 0 c] w (HR M ga gm gi n cap V w (chainB (revs l) [])) := by
  obtain ⟨hga, hgm⟩ := hA.lt
  have hmk : ∀ w, (Instr.makeSlice 84 (.int .i64 1) (.int .i64 1)).run Tryz.prog w = .ok (.slice (some ⟨w.heap.size, 0, none⟩) 1 1) (w.alloc (.cells (bl (fun _ => false) 0) 4)) := fun w => make_bools 0 (by omega) w
  have hb0 := Box.new hM (bl (fun _ => false) 0) 4
  have e0 : (w.alloc (.cells (bl (fun _ => false) 0) 4)).cell? ⟨w.heap.size, 0, none⟩ = some (.bool false) := (hb0.cell 0).trans (bl_get (Nat.le_refl _))
  have e1 : (w.alloc (.cells (bl (fun _ => false) 0) 4)).frozen? ⟨w.heap.size, 0, none⟩ = false := hb0.free 0
  have hst : (bl (fun _ => false) 0).setIfInBounds 0 (.bool true) = bl (fun _ => Cf [] ((revs l).take 0) begF 0) 0 := by
    rw [bl_set]
    exact bl_ext (fun m hm => by
      have : m = 0 := by omega
      subst this; rfl)
  have HMK := Hid.mk hmk
  have HST := Hid.mk hst
  have HRW := Hid.mk hrow
  have HX := Hid.mk (fun j (h : j < l.length) w => (hk j h).empty (hrn j h) 0 w)
  have HS := Hid.mk (chain_nil_step l)
  have HE := Hid.mk (chain_nil_all l)
  have hc0 : (0 : Int) ≤ (c : Int) := by omega
  clear hb0 hst hrow hk hrn
  go_enter Tryz.func129, Tryz.ntmps129
  go_wp2_with fail
  rw [HST.out]
  clear e0 e1 hmk
  go_loopg [7, 8] l.length (fun kk v7 v wr => ∃ (j he : Nat), j ≤ l.length ∧ kk = l.length - j ∧ v7 = .slice (some ⟨he, 0, none⟩) 1 1 ∧ v = .int .i64 (j : Nat) ∧ w.heap.size ≤ he ∧ Box wr M he (bl (fun _ => Cf [] ((revs l).take j) begF 0) 0) 4 ∧ Mem wr M ∧ AsR wr M ga gm gi n cap V ∧ Kp [gm] w wr)
  case atStart => exact ⟨0, w.heap.size, Nat.zero_le _, by simp, rfl, rfl, Nat.le_refl _, Box.new hM _ _, hM.alloc _, hA.kp ((Kp.refl [] _).alloc _) (by simp) (by simp), (Kp.refl _ _).alloc _⟩
  case round =>
    clear hM hA
    obtain ⟨j, he, hj, hkk, rfl, rfl, hhe, hb, hM', hA', hK⟩ := hrel
    by_cases hlt : j < l.length
    · obtain ⟨bb, o, rfl, hcell⟩ := HRW.out j hlt
      have HCELL := Hid.mk hcell
      have hmk := HMK.out
      have HT := Hid.mk (HS.out j hlt)
      have HXJ := Hid.mk (HX.out j hlt)
      have q := (hb.cell 0).trans (bl_get (Nat.le_refl _))
      have hsz := hK.size
      have hb9 := Box.new hM' (bl (fun _ => false) 0) 4
      have hgm1 := hA'.lt
      have hne9 : he ≠ wr.heap.size := Nat.ne_of_lt hb.lt
      have hq9 : (wr.alloc (.cells (bl (fun _ => false) 0) 4)).cell? ⟨wr.heap.size, 0, none⟩ = some (.bool false) := (hb9.cell 0).trans (bl_get (Nat.le_refl _))
      have hf9 : (wr.alloc (.cells (bl (fun _ => false) 0) 4)).frozen? ⟨wr.heap.size, 0, none⟩ = false := hb9.free 0
      have hqe : (wr.alloc (.cells (bl (fun _ => false) 0) 4)).cell? ⟨he, 0, none⟩ = some (.bool (Cf [] ((revs l).take j) begF 0)) := ((hb.alloc _).cell 0).trans (bl_get (Nat.le_refl _))
      have hbe := hb.alloc (.cells (bl (fun _ => false) 0) 4)
      have HH := Hid.mk (And.intro (hM'.alloc (.cells (bl (fun _ => false) 0) 4)) (And.intro (hA'.kp ((Kp.refl [] _).alloc (.cells (bl (fun _ => false) 0) 4)) (by simp) (by simp)) (And.intro (hK.alloc (.cells (bl (fun _ => false) 0) 4)) (And.intro hb9 hbe))))
      have hss : (wr.alloc (.cells (bl (fun _ => false) 0) 4)).heap.size = wr.heap.size + 1 := by simp
      have HSS := Hid.mk hss
      clear hb hM' hA' hK hb9 hcell hss q hbe
      cases hF : Cf [] ((revs l).take j) begF 0 with
      | false =>
        rw [hF] at hqe HT
        clear hF
        go_wp2_with fail
        generalize hw9 : (wr.alloc (.cells (bl (fun _ => false) 0) 4)) = w9 at *
        generalize hhn : wr.heap.size = hn at *
        clear hhn hw9
        refine wp_loop_rounds 2 ?_
        rw [rounds_succ]
        go_wp2_with fail
        refine wp_loop_rounds 2 ?_
        rw [rounds_succ]
        go_wp2_with fail
        rw [rounds_succ]
        go_wp2_with fail
        go_roundg (l.length - (j + 1))
        case measure => omega
        case rel =>
          obtain ⟨hM2, hA2, hK2, hb2, _⟩ := HH.out
          refine ⟨j + 1, hn, by omega, rfl, rfl, by go_num, by omega, ?_, hM2, hA2, hK2⟩
          rw [HT.out]
          exact hb2
      | true =>
        rw [hF] at hqe HT
        have HBE : Hid (Box (wr.alloc (.cells (bl (fun _ => false) 0) 4)) M he (bl (fun _ => true) 0) 4) := Hid.mk (by have := HH.out.2.2.2.2; rw [hF] at this; exact this)
        clear hF
        obtain ⟨v5, hv5⟩ : ∃ v5, v5 = rev l[j] [] := ⟨_, rfl⟩
        rw [← hv5] at HT HXJ
        clear hv5
        go_wp2_with fail
        generalize hw9 : (wr.alloc (.cells (bl (fun _ => false) 0) 4)) = w9 at *
        generalize hhn : wr.heap.size = hn at *
        clear hhn hw9
        obtain ⟨τ, W, x0, hx0', hC, hin2⟩ := class_of (fun w' => Mem w' M ∧ AsR w' M ga gm gi n cap V ∧ Kp [gm] w w' ∧ Box w' M hn (bl (fun _ => false) 0) 4 ∧ Box w' M he (bl (fun _ => true) 0) 4) (w := w9.drew) ⟨HH.out.1.drew, HH.out.2.1.kp ((Kp.refl [] _).drew) (by simp) (by simp), HH.out.2.2.1.drew, HH.out.2.2.2.1.drew, HBE.out.drew⟩
        have hne : Nonempty τ := ⟨x0⟩
        have d0 : ∀ x, (W x).cell? ⟨bb, o + j, none⟩ = some (.int .i64 (kj j : Nat)) := fun x => (hC x).1.cell HCELL.out
        have d1 : ∀ x, (W x).cell? ⟨hn, 0, none⟩ = some (.bool false) := fun x => ((hC x).2.2.2.1.cell 0).trans (bl_get (Nat.le_refl _))
        have d2 : ∀ x, (W x).frozen? ⟨hn, 0, none⟩ = false := fun x => (hC x).2.2.2.1.free 0
        have HC2 := Hid.mk hC
        have HIN := Hid.mk hin2
        have HX0 := Hid.mk hx0'
        have HP : Hid (∀ x, Calls Tryz.prog 50 #[.pointer (some ⟨ga, 0, none⟩), .int .i64 (kj j : Nat), .slice none 0 0] (W x) (fun e w' => e = .returned (.bool v5) ∧ ∃ x, w' = W x)) := Hid.mk (fun x => (HXJ.out (W x) (HC2.out x).1 (HC2.out x).2.1).mono (fun e w5 h => by
          obtain ⟨rfl, hM5, hA5, hk5⟩ := h
          exact ⟨rfl, HIN.out _ ⟨hM5, hA5, (HC2.out x).2.2.1.trans hk5, (HC2.out x).2.2.2.1.same hk5 (by simp; omega), (HC2.out x).2.2.2.2.same hk5 (by simp; omega)⟩⟩))
        clear hC hin2 hx0'
        refine wp_loop_rounds 2 ?_
        rw [rounds_succ]
        go_wp2_with fail
        refine wp_loop_rounds 2 ?_
        rw [rounds_succ]
        go_wp2_with fail
        refine wp_region_cls_tail W 20 x0 HX0.out (by kernel_rfl) (by kernel_rfl) ?_
        simp only [List.take_succ_cons, List.take_zero, List.drop_succ_cons, List.drop_zero]
        repeat (go_big_quiet_step (first | (go_at_call 50; exact HP.out _) | fail))
        refine wpQuiet_nil ?_
        rintro _ ⟨x, rfl⟩
        have HZ := Hid.mk (HC2.out x)
        have d1 := d1 x
        have d2 := d2 x
        have hqe2 : ((W x).setCell ⟨hn, 0, none⟩ (.bool v5)).cell? ⟨he, 0, none⟩ = some (.bool true) := ((HZ.out.2.2.2.2.far (p := ⟨hn, 0, none⟩) hne9 (.bool v5)).cell 0).trans (bl_get (Nat.le_refl _))
        clear HP HC2 HIN HX0 d0 hqe hq9 hf9
        go_wp2_with fail
        rw [rounds_succ]
        go_wp2_with fail
        rw [rounds_succ]
        go_wp2_with fail
        go_roundg (l.length - (j + 1))
        case measure => omega
        case rel =>
          obtain ⟨hM2, hA2, hK2, hb2, _⟩ := HZ.out
          have hks : Kp [hn] (W x) ((W x).setCell ⟨hn, 0, none⟩ (.bool v5)) := (Kp.refl _ _).setCell (.inl (by simp)) _
          have hb3 := hb2.set 0 (.bool v5)
          rw [bl_set, bl_ext (g := fun _ => v5) (fun m hm => by have : m = 0 := by omega
                                                                subst this; rfl)] at hb3
          refine ⟨j + 1, hn, by omega, rfl, rfl, by go_num, by omega, ?_, hM2.kp hks (by simpa using hb2.out), hA2.kp hks (by simp; omega) (by simp; omega), hK2.setCell (.inr (by simp; omega)) _⟩
          rw [HT.out, Bool.true_and]
          exact hb3
    · obtain rfl : j = l.length := by omega
      have hlt' : ¬ ((l.length : Int) < (l.length : Int)) := by omega
      have q := (hb.cell 0).trans (bl_get (Nat.le_refl _))
      go_wp2_with fail
      go_ret
      exact ⟨ret_bool HE.out.symm, hM', hA', hK⟩
theorem rAchain_calls {ga gm gi n cap L ck : Nat} {V : Bs → Bool} {l : List E} {A : Option Addr} {kj : Nat → Nat} (hL : L ≤ 60) (M : Heap) (hrow : ∀ j, (h : j < l.length) → ∃ bb o, A = some ⟨bb, o, none⟩ ∧ cellM M ⟨bb, o + j, none⟩ = some (.int .i64 (kj j : Nat)))
    (hk : ∀ j, (h : j < l.length) → RH ga gm gi n cap V L (kj j) l[j]) (hrn : ∀ j, (h : j < l.length) → RN M gi n (kj j) l[j]) (hl : l.length ≤ 1000000) (u : List Bs) (B : Option Addr) (c : Nat) (w : World) (hws : WvM M B u) (hc : u.length ≤ c) (hok : OkW L u) (hM : Mem w M) (hA : AsR w M ga gm gi n cap V) :
    Calls Tryz.prog 129 #[.pointer (some ⟨ga, 0, none⟩), .slice A l.length ck, .slice B u.length c] w (HR M ga gm gi n cap V w (chainB (revs l) u)) := by
  rcases hws with ⟨rfl, rfl⟩ | ⟨b, o, rfl, hcell⟩
  · exact rAchain_nil (L := L) M hrow hk hrn hl w hM hA
  · exact rAchain_some hL M hrow hk hrn hl u b o c w hcell hc hok hM hA
end Go.Proofs.YtgdnhlckodhhgaaGreatDoor
