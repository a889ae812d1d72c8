/-
  The reference's asker: isRow.
-/
import Derived.Test.YtgdnhlckodhhgaaGreatDoorJVF
import Derived.Test.YtgdnhlckodhhgaaGreatDoorJH
namespace Go.Proofs.YtgdnhlckodhhgaaGreatDoor
open Go.RowKit
set_option linter.unusedVariables false
set_option linter.unusedSimpArgs false
set_option maxRecDepth 100000 in
set_option maxHeartbeats 4000000 in
theorem rArow_some {ga gm gi n cap L kn : Nat} {V : Bs → Bool} {e : E} (hL : L ≤ 60) (hx : RH ga gm gi n cap V L kn e) (M : Heap) (u : List Bs) (b o c : Nat) (w : World) (hrn : RN M gi n kn e) (hcell : ∀ j, (h : j < u.length) → cellM M ⟨b, o + j, none⟩ = some (.string (bs u[j]))) (hc : u.length ≤ c) (hok : OkW L u) (hM : Mem w M) (hA : AsR w M ga gm gi n cap V) :
    Calls Tryz.prog 130 #[.pointer (some ⟨ga, 0, none⟩), .int .i64 (kn : Nat), .slice (some ⟨b, o, none⟩) u.length c] w (HR M ga gm gi n cap V w (starB (rev e) u)) := by
  have hul : u.length ≤ 60 := Nat.le_trans hok.1 hL
  have HXC := Hid.mk (fun i m w => hx.cut hrn hcell hok i m w)
  clear hx hrn hcell hok
  have hmk := make_bools u.length (by omega)
  obtain ⟨hga, hgm⟩ := hA.lt
  have hb0 := Box.new hM (bl (fun _ => false) u.length) 4
  have e0 : (w.alloc (.cells (bl (fun _ => false) u.length) 4)).cell? ⟨w.heap.size, 0, none⟩ = some (.bool false) := (hb0.cell 0).trans (bl_get (Nat.zero_le _))
  have e1 : (w.alloc (.cells (bl (fun _ => false) u.length) 4)).frozen? ⟨w.heap.size, 0, none⟩ = false := hb0.free 0
  go_enter Tryz.func130, Tryz.ntmps130
  go_wp2_with fail
  have hst : (bl (fun _ => false) u.length).setIfInBounds 0 (.bool true) = bl (Es (rev e) u 0) u.length := by
    rw [bl_set]
    exact bl_ext (fun m _ => by rw [Es_zero]; by_cases h : m = 0 <;> simp [h])
  rw [hst]
  clear e0 e1 hb0 hst hmk
  go_loopg [8] u.length (fun kk v wr => ∃ i : Nat, i ≤ u.length ∧ kk = u.length - i ∧ v = .int .i64 (i : Nat) ∧ Box wr M w.heap.size (bl (Es (rev e) u i) u.length) 4 ∧ Mem wr M ∧ AsR wr M ga gm gi n cap V ∧ Kp [gm] w wr)
  case atStart => exact ⟨0, Nat.zero_le _, by simp, rfl, Box.new hM _ _, hM.alloc _, hA.kp ((Kp.refl [] _).alloc _) (by simp) (by simp), (Kp.refl _ _).alloc _⟩
  case round =>
    obtain ⟨i, hi, hk, rfl, hb, hM', hA', hK⟩ := hrel
    by_cases hlt : i < u.length
    · have HH := Hid.mk (And.intro hb (And.intro hM' (And.intro hA' hK)))
      clear hb hM' hA' hK
      go_wp2_with fail
      go_loopg [9] (u.length - i) (fun kk v wy => ∃ k : Nat, i + 1 ≤ k ∧ k ≤ u.length + 1 ∧ kk = u.length + 1 - k ∧ v = .int .i64 (k : Nat) ∧ Box wy M w.heap.size (bl (fun m => if m < k then Es (rev e) u (i + 1) m else Es (rev e) u i m) u.length) 4 ∧ Mem wy M ∧ AsR wy M ga gm gi n cap V ∧ Kp [gm] w wy)
      case atStart =>
        obtain ⟨hb, hM', hA', hK⟩ := HH.out
        refine ⟨i + 1, Nat.le_refl _, by omega, by omega, by go_num, ?_, hM', hA', hK⟩
        rw [bl_ext (g := Es (rev e) u i)]
        · exact hb
        · intro m _
          split
          · exact Es_keep _ _ (by omega)
          · rfl
      case round =>
        obtain ⟨k, hk1, hk2, hkk, rfl, hby, hMy, hAy, hKy⟩ := hrel
        have qi := (hby.cell i).trans (bl_get (Nat.le_of_lt hlt))
        rw [if_pos (show i < k by omega), Es_full _ _ (by omega : i ≤ i + 1)] at qi
        cases hE : Ef (rev e) u i with
        | false =>
          rw [hE] at qi
          have HE' := Hid.mk hE
          have HB := Hid.mk (And.intro hby (And.intro hMy (And.intro hAy hKy)))
          clear hE hby hMy hAy hKy
          go_wp2_with fail
          go_roundg (u.length - (i + 1))
          case measure => omega
          case rel =>
            obtain ⟨hby, hMy, hAy, hKy⟩ := HB.out
            refine ⟨i + 1, by omega, rfl, by go_num, ?_, hMy, hAy, hKy⟩
            rw [bl_ext (g := Es (rev e) u (i + 1))] at hby
            · exact hby
            · intro m _
              split
              · rfl
              · exact (Es_no _ _ HE'.out).symm
        | true =>
          rw [hE] at qi
          have HE' := Hid.mk hE
          clear hE
          by_cases hkn : k ≤ u.length
          · have qk := (hby.cell k).trans (bl_get hkn)
            rw [if_neg (show ¬ k < k by omega)] at qk
            have fk := hby.free k
            cases hV : Es (rev e) u i k with
            | true =>
              rw [hV] at qk
              have HV := Hid.mk hV
              have HB := Hid.mk (And.intro hby (And.intro hMy (And.intro hAy hKy)))
              clear hV hby hMy hAy hKy
              go_wp2_with fail
              go_roundg (u.length + 1 - (k + 1))
              case measure => omega
              case rel =>
                obtain ⟨hby, hMy, hAy, hKy⟩ := HB.out
                have hks : Kp [w.heap.size] wr (wr.setCell ⟨w.heap.size, k, none⟩ (.bool true)) := (Kp.refl _ _).setCell (.inl (by simp)) _
                have hb2 := hby.set k (.bool true)
                rw [bl_set, bl_ext (g := fun m => if m < k + 1 then Es (rev e) u (i + 1) m else Es (rev e) u i m)] at hb2
                · exact ⟨k + 1, by omega, by omega, rfl, by go_num, hb2, hMy.kp hks (by simpa using hby.out), hAy.kp hks (by simp; omega) (by simp; omega), hKy.setCell (.inr (Nat.le_refl _)) _⟩
                · intro m _
                  rcases Nat.lt_trichotomy m k with h | h | h
                  · rw [if_neg (by omega), if_pos h, if_pos (by omega)]
                  · subst h
                    rw [if_pos rfl, if_pos (by omega), Es_step _ _ (by omega), HV.out]; rfl
                  · rw [if_neg (by omega), if_neg (by omega), if_neg (by omega)]
            | false =>
              rw [hV] at qk
              have HV := Hid.mk hV
              have hkc : (k : Int) ≤ (c : Int) := by omega
              have hki : (i : Int) ≤ (k : Int) := by omega
              have huc : (u.length : Int) ≤ (c : Int) := by omega
              have h1 : ¬ k = i := by omega
              have h2 : ¬ (i : Int) = (k : Int) := by omega
              have h3 : ¬ (k : Int) - (i : Int) = 0 := by omega
              have h4 : ¬ (k : Int) = (i : Int) := by omega
              have h5 : (i : Int) < (k : Int) := by omega
              have h6 : ¬ k - i = 0 := by omega
              have HXK := Hid.mk (HXC.out i k wr (by omega) (by omega) hMy hAy)
              have HB := Hid.mk (And.intro hby (And.intro hMy (And.intro hAy hKy)))
              clear hV hby hMy hAy hKy
              go_wp2_with fail
              (with_reducible refine HXK.out.mono ?_)
              rintro en w5 ⟨rfl, hM5, hA5, hk5⟩
              obtain ⟨hby, hMy, hAy, hKy⟩ := HB.out
              have hb5 := hby.same hk5 (by simp; omega)
              have f5 := hb5.free k
              have qk5 := (hb5.cell k).trans (bl_get hkn)
              have HC := Hid.mk (And.intro hb5 (And.intro hM5 (And.intro hA5 (hKy.trans hk5))))
              clear hby hMy hAy hKy hb5 hM5 hA5 hk5 qk fk qi HB
              go_wp2_with fail
              go_roundg (u.length + 1 - (k + 1))
              case measure => omega
              case rel =>
                obtain ⟨hb5, hM5, hA5, hK5⟩ := HC.out
                have hks : Kp [w.heap.size] w5 (w5.setCell ⟨w.heap.size, k, none⟩ (.bool (rev e (part u i k)))) := (Kp.refl _ _).setCell (.inl (by simp)) _
                have hb2 := hb5.set k (.bool (rev e (part u i k)))
                rw [bl_set, bl_ext (g := fun m => if m < k + 1 then Es (rev e) u (i + 1) m else Es (rev e) u i m)] at hb2
                · exact ⟨k + 1, by omega, by omega, rfl, by go_num, hb2, hM5.kp hks (by simpa using hb5.out), hA5.kp hks (by simp; omega) (by simp; omega), hK5.setCell (.inr (Nat.le_refl _)) _⟩
                · intro m _
                  rcases Nat.lt_trichotomy m k with h | h | h
                  · rw [if_neg (by omega), if_pos h, if_pos (by omega)]
                  · subst h
                    rw [if_pos rfl, if_pos (by omega), Es_step _ _ (by omega), HV.out, HE'.out]; simp
                  · rw [if_neg (by omega), if_neg (by omega), if_neg (by omega)]
          · have hk9 : k = u.length + 1 := by omega
            have hlt2 : ¬ ((k : Int) ≤ (u.length : Int)) := by omega
            have HB := Hid.mk (And.intro hby (And.intro hMy (And.intro hAy hKy)))
            clear hby hMy hAy hKy
            go_wp2_with fail
            go_roundg (u.length - (i + 1))
            case measure => omega
            case rel =>
              obtain ⟨hby, hMy, hAy, hKy⟩ := HB.out
              refine ⟨i + 1, by omega, rfl, by go_num, ?_, hMy, hAy, hKy⟩
              rw [bl_ext (g := Es (rev e) u (i + 1))] at hby
              · exact hby
              · intro m hm
                rw [if_pos (by omega)]
    · obtain rfl : i = u.length := by omega
      have hlt' : ¬ ((u.length : Int) < (u.length : Int)) := by omega
      have q := (hb.cell u.length).trans (bl_get (Nat.le_refl _))
      have HF := Hid.mk ((Es_full (rev e) u (Nat.le_refl _)).trans (starB_eq (rev e) u).symm)
      go_wp2_with fail
      go_ret
      exact ⟨ret_bool HF.out, hM', hA', hK⟩
end Go.Proofs.YtgdnhlckodhhgaaGreatDoor

/-
  The reference's asker: isRow, isOnly, of whatever word.
-/
namespace Go.Proofs.YtgdnhlckodhhgaaGreatDoor
open Go.RowKit
set_option linter.unusedVariables false
set_option linter.unusedSimpArgs false
set_option maxRecDepth 100000 in
set_option maxHeartbeats 1000000 in
theorem rArow_nil {ga gm gi n cap kn c : Nat} {V : Bs → Bool} {p : List Bs → Bool} (M : Heap) (w : World) (hM : Mem w M) (hA : AsR w M ga gm gi n cap V) :
    Calls Tryz.prog 130 #[.pointer (some ⟨ga, 0, none⟩), .int .i64 (kn : Nat), .slice none 0 c] w (HR M ga gm gi n cap V w (starB p [])) := by
  have HS : Hid (starB p [] = true) := Hid.mk (by simp [starB, starE])
  have hmk : ∀ w, (Instr.makeSlice 84 (.int .i64 1) (.int .i64 1)).run Tryz.prog w = .ok (.slice (some ⟨w.heap.size, 0, none⟩) 1 1) (w.alloc (.cells (bl (fun _ => false) 0) 4)) := fun w => make_bools 0 (by omega) w
  have hb0 := Box.new hM (bl (fun _ => false) 0) 4
  have e0 : (w.alloc (.cells (bl (fun _ => false) 0) 4)).cell? ⟨w.heap.size, 0, none⟩ = some (.bool false) := (hb0.cell 0).trans (bl_get (Nat.le_refl _))
  have e1 : (w.alloc (.cells (bl (fun _ => false) 0) 4)).frozen? ⟨w.heap.size, 0, none⟩ = false := hb0.free 0
  have hst : (bl (fun _ => false) 0).setIfInBounds 0 (.bool true) = bl (fun _ => true) 0 := by
    rw [bl_set]
    exact bl_ext (fun m hm => by
      have : m = 0 := by omega
      subst this; rfl)
  have hb1 := Box.new hM (bl (fun _ => true) 0) 4
  have q2 : (w.alloc (.cells (bl (fun _ => true) 0) 4)).cell? ⟨w.heap.size, 0, none⟩ = some (.bool true) := (hb1.cell 0).trans (bl_get (Nat.le_refl _))
  have hk : Kp [gm] w (w.alloc (.cells (bl (fun _ => true) 0) 4)) := (Kp.refl [gm] w).alloc _
  have hk0 : Kp [] w (w.alloc (.cells (bl (fun _ => true) 0) 4)) := (Kp.refl [] w).alloc _
  have HH := Hid.mk (And.intro (hM.kp hk0 (by simp)) (And.intro (hA.kp hk0 (by simp) (by simp)) hk))
  have HST := Hid.mk hst
  rw [HS.out]
  clear hb0 hb1 hk hk0 hM hA hst
  go_enter Tryz.func130, Tryz.ntmps130
  go_wp2_with fail
  rw [HST.out]
  clear e0 e1 hmk
  refine wp_loop_rounds 1 ?_
  rw [rounds_succ]
  go_wp2_with fail
  go_ret
  exact ⟨rfl, HH.out⟩
theorem rArow_calls {ga gm gi n cap L kn : Nat} {V : Bs → Bool} {e : E} (hL : L ≤ 60) (hx : RH ga gm gi n cap V L kn e) (M : Heap) (u : List Bs) (A : Option Addr) (c : Nat) (w : World) (hrn : RN M gi n kn e) (hws : WvM M A u) (hc : u.length ≤ c) (hok : OkW L u) (hM : Mem w M) (hA : AsR w M ga gm gi n cap V) :
    Calls Tryz.prog 130 #[.pointer (some ⟨ga, 0, none⟩), .int .i64 (kn : Nat), .slice A u.length c] w (HR M ga gm gi n cap V w (starB (rev e) u)) := by
  rcases hws with ⟨rfl, rfl⟩ | ⟨b, o, rfl, hcell⟩
  · exact rArow_nil M w hM hA
  · exact rArow_some hL hx M u b o c w hrn hcell hc hok hM hA
end Go.Proofs.YtgdnhlckodhhgaaGreatDoor

/-
  The reference's asker: isOnly, of whatever word.
-/
namespace Go.Proofs.YtgdnhlckodhhgaaGreatDoor
open Go.RowKit
set_option linter.unusedVariables false
set_option linter.unusedSimpArgs false
set_option maxRecDepth 100000 in
set_option maxHeartbeats 2000000 in
theorem rAonly_nil {ga gm gi n cap L k0 k1 k2 c : Nat} {V : Bs → Bool} {e0 e1 e2 : E} (hL : L ≤ 60) (hx0 : RH ga gm gi n cap V L k0 e0) (hx1 : RH ga gm gi n cap V L k1 e1) (hx2 : RH ga gm gi n cap V L k2 e2) (M : Heap) (bk ok ck : Nat) (w : World) (hr0 : RN M gi n k0 e0) (hr1 : RN M gi n k1 e1) (hr2 : RN M gi n k2 e2)
    (hk0 : cellM M ⟨bk, ok, none⟩ = some (.int .i64 (k0 : Nat))) (hk1 : cellM M ⟨bk, ok + 1, none⟩ = some (.int .i64 (k1 : Nat))) (hk2 : cellM M ⟨bk, ok + 2, none⟩ = some (.int .i64 (k2 : Nat))) (hM : Mem w M) (hA : AsR w M ga gm gi n cap V) :
    Calls Tryz.prog 133 #[.pointer (some ⟨ga, 0, none⟩), .slice (some ⟨bk, ok, none⟩) 3 ck, .slice none 0 c] w (HR M ga gm gi n cap V w (onlyB (rev e0) (rev e1) (rev e2) [])) := by
  have HB : Hid (onlyB (rev e0) (rev e1) (rev e2) [] = !(rev e0 [] && !(rev e1 [] && rev e2 []))) := Hid.mk (by simp [onlyB, part, endsB, beginsB])
  have HE1 : Hid (endsB (rev e1) [] = rev e1 []) := Hid.mk (by simp [endsB])
  have HE2 : Hid (beginsB (rev e2) [] = rev e2 []) := Hid.mk (by simp [beginsB])
  have hc0 : (0 : Int) ≤ (c : Int) := by omega
  obtain ⟨τ, W, x0, hx0', hC, hin⟩ := class_of (fun w' => Mem w' M ∧ AsR w' M ga gm gi n cap V ∧ Kp [gm] w w') (w := w.drew) ⟨hM.drew, hA.kp ((Kp.refl [] _).drew) (by simp) (by simp), (Kp.refl [gm] w).drew⟩
  have hne : Nonempty τ := ⟨x0⟩
  have HC := Hid.mk hC
  have HIN := Hid.mk hin
  have HX0 := Hid.mk hx0'
  clear hC hin hx0'
  have d0 : ∀ x, (W x).cell? ⟨bk, ok, none⟩ = some (.int .i64 (k0 : Nat)) := fun x => (HC.out x).1.cell hk0
  have d1 : ∀ x, (W x).cell? ⟨bk, ok + 1, none⟩ = some (.int .i64 (k1 : Nat)) := fun x => (HC.out x).1.cell hk1
  have d2 : ∀ x, (W x).cell? ⟨bk, ok + 2, none⟩ = some (.int .i64 (k2 : Nat)) := fun x => (HC.out x).1.cell hk2
  have HP : Hid (∀ x, Calls Tryz.prog 50 #[.pointer (some ⟨ga, 0, none⟩), .int .i64 (k0 : Nat), .slice none 0 0] (W x) (fun e w' => e = .returned (.bool (rev e0 [])) ∧ ∃ x, w' = W x)) := Hid.mk (fun x => (hx0.empty hr0 0 (W x) (HC.out x).1 (HC.out x).2.1).mono (by rintro e w5 ⟨rfl, hM5, hA5, hk5⟩; exact ⟨rfl, HIN.out _ ⟨hM5, hA5, (HC.out x).2.2.trans hk5⟩⟩))
  have HQ : Hid (∀ x, Calls Tryz.prog 181 #[.pointer (some ⟨ga, 0, none⟩), .int .i64 (k1 : Nat), .slice none 0 0] (W x) (fun e w' => e = .returned (.bool (rev e1 [])) ∧ ∃ x, w' = W x)) := Hid.mk (fun x => ((fun h1 h2 => by have H := rAends_calls hL hx1 M [] none 0 (W x) hr1 (.inl ⟨rfl, rfl⟩) (Nat.le_refl _) ⟨Nat.zero_le _, by simp⟩ h1 h2; rw [HE1.out] at H; exact H : Mem (W x) M → AsR (W x) M ga gm gi n cap V → Calls Tryz.prog 181 #[.pointer (some ⟨ga, 0, none⟩), .int .i64 (k1 : Nat), .slice none 0 0] (W x) (HR M ga gm gi n cap V (W x) (rev e1 []))) (HC.out x).1 (HC.out x).2.1).mono (by rintro e w5 ⟨rfl, hM5, hA5, hk5⟩; exact ⟨rfl, HIN.out _ ⟨hM5, hA5, (HC.out x).2.2.trans hk5⟩⟩))
  have HRB : Hid (∀ x, Calls Tryz.prog 182 #[.pointer (some ⟨ga, 0, none⟩), .int .i64 (k2 : Nat), .slice none 0 0] (W x) (fun e w' => e = .returned (.bool (rev e2 [])) ∧ ∃ x, w' = W x)) := Hid.mk (fun x => ((fun h1 h2 => by have H := rAbegins_calls hL hx2 M [] none 0 (W x) hr2 (.inl ⟨rfl, rfl⟩) (Nat.le_refl _) ⟨Nat.zero_le _, by simp⟩ h1 h2; rw [HE2.out] at H; exact H : Mem (W x) M → AsR (W x) M ga gm gi n cap V → Calls Tryz.prog 182 #[.pointer (some ⟨ga, 0, none⟩), .int .i64 (k2 : Nat), .slice none 0 0] (W x) (HR M ga gm gi n cap V (W x) (rev e2 []))) (HC.out x).1 (HC.out x).2.1).mono (by rintro e w5 ⟨rfl, hM5, hA5, hk5⟩; exact ⟨rfl, HIN.out _ ⟨hM5, hA5, (HC.out x).2.2.trans hk5⟩⟩))
  clear hx0 hx1 hx2 hr0 hr1 hr2 hk0 hk1 hk2 hM hA
  cases hv0 : rev e0 [] with
  | false =>
    have HNO := Hid.mk (HB.out.trans (by rw [hv0]; rfl : _ = true))
    rw [hv0] at HP
    clear hv0 HB
    go_enter Tryz.func133, Tryz.ntmps133
    go_wp2_with fail
    refine wp_loop_rounds 2 ?_
    rw [rounds_succ]
    go_wp2_with fail
    refine wp_loop_rounds 2 ?_
    rw [rounds_succ]
    go_upto_region 7 with fail
    refine wp_region_cls W x0 HX0.out (by kernel_rfl) (by kernel_rfl) ?_
    repeat (go_big_quiet_step (first | (go_at_call 50; exact HP.out _) | fail))
    refine wpQuiet_nil ?_
    rintro _ ⟨x, rfl⟩
    have HZ := Hid.mk (HC.out x)
    clear HC HIN HX0 HP HQ HRB d0 d1 d2 hne
    go_wp2_with fail
    rw [rounds_succ]
    go_wp2_with fail
    rw [rounds_succ]
    go_wp2_with fail
    go_ret
    exact ⟨ret_bool HNO.out.symm, HZ.out.1, HZ.out.2.1, HZ.out.2.2⟩
  | true =>
    cases hv1 : rev e1 [] with
    | false =>
      have HNO := Hid.mk (HB.out.trans (by rw [hv0, hv1]; rfl : _ = false))
      rw [hv0] at HP
      rw [hv1] at HQ
      clear hv0 hv1 HB
      go_enter Tryz.func133, Tryz.ntmps133
      go_wp2_with fail
      refine wp_loop_rounds 2 ?_
      rw [rounds_succ]
      go_wp2_with fail
      refine wp_loop_rounds 2 ?_
      rw [rounds_succ]
      go_upto_region 7 with fail
      refine wp_region_cls W x0 HX0.out (by kernel_rfl) (by kernel_rfl) ?_
      repeat (go_big_quiet_step (first | (go_at_call 50; exact HP.out _) | (go_at_call 181; exact HQ.out _) | fail))
      refine wpQuiet_nil ?_
      rintro _ ⟨x, rfl⟩
      have HZ := Hid.mk (HC.out x)
      clear HC HIN HX0 HP HQ HRB d0 d1 d2 hne
      go_wp2_with fail
      go_ret
      exact ⟨ret_bool HNO.out.symm, HZ.out.1, HZ.out.2.1, HZ.out.2.2⟩
    | true =>
      cases hv2 : rev e2 [] with
      | false =>
        have HNO := Hid.mk (HB.out.trans (by rw [hv0, hv1, hv2]; rfl : _ = false))
        rw [hv0] at HP
        rw [hv1] at HQ
        rw [hv2] at HRB
        clear hv0 hv1 hv2 HB
        go_enter Tryz.func133, Tryz.ntmps133
        go_wp2_with fail
        refine wp_loop_rounds 2 ?_
        rw [rounds_succ]
        go_wp2_with fail
        refine wp_loop_rounds 2 ?_
        rw [rounds_succ]
        go_upto_region 7 with fail
        refine wp_region_cls W x0 HX0.out (by kernel_rfl) (by kernel_rfl) ?_
        repeat (go_big_quiet_step (first | (go_at_call 50; exact HP.out _) | (go_at_call 181; exact HQ.out _) | (go_at_call 182; exact HRB.out _) | fail))
        refine wpQuiet_nil ?_
        rintro _ ⟨x, rfl⟩
        have HZ := Hid.mk (HC.out x)
        clear HC HIN HX0 HP HQ HRB d0 d1 d2 hne
        go_wp2_with fail
        go_ret
        exact ⟨ret_bool HNO.out.symm, HZ.out.1, HZ.out.2.1, HZ.out.2.2⟩
      | true =>
        have HNO := Hid.mk (HB.out.trans (by rw [hv0, hv1, hv2]; rfl : _ = true))
        rw [hv0] at HP
        rw [hv1] at HQ
        rw [hv2] at HRB
        clear hv0 hv1 hv2 HB
        go_enter Tryz.func133, Tryz.ntmps133
        go_wp2_with fail
        refine wp_loop_rounds 2 ?_
        rw [rounds_succ]
        go_wp2_with fail
        refine wp_loop_rounds 2 ?_
        rw [rounds_succ]
        go_upto_region 7 with fail
        refine wp_region_cls W x0 HX0.out (by kernel_rfl) (by kernel_rfl) ?_
        repeat (go_big_quiet_step (first | (go_at_call 50; exact HP.out _) | (go_at_call 181; exact HQ.out _) | (go_at_call 182; exact HRB.out _) | fail))
        refine wpQuiet_nil ?_
        rintro _ ⟨x, rfl⟩
        have HZ := Hid.mk (HC.out x)
        clear HC HIN HX0 HP HQ HRB d0 d1 d2 hne
        go_wp2_with fail
        rw [rounds_succ]
        go_wp2_with fail
        rw [rounds_succ]
        go_wp2_with fail
        go_ret
        exact ⟨ret_bool HNO.out.symm, HZ.out.1, HZ.out.2.1, HZ.out.2.2⟩
theorem rAonly_calls {ga gm gi n cap L k0 k1 k2 : Nat} {V : Bs → Bool} {e0 e1 e2 : E} (hL : L ≤ 60) (hx0 : RH ga gm gi n cap V L k0 e0) (hx1 : RH ga gm gi n cap V L k1 e1) (hx2 : RH ga gm gi n cap V L k2 e2) (M : Heap) (u : List Bs) (A : Option Addr) (bk ok c ck : Nat) (w : World) (hr0 : RN M gi n k0 e0) (hr1 : RN M gi n k1 e1) (hr2 : RN M gi n k2 e2)
    (hk0 : cellM M ⟨bk, ok, none⟩ = some (.int .i64 (k0 : Nat))) (hk1 : cellM M ⟨bk, ok + 1, none⟩ = some (.int .i64 (k1 : Nat))) (hk2 : cellM M ⟨bk, ok + 2, none⟩ = some (.int .i64 (k2 : Nat))) (hws : WvM M A u) (hc : u.length ≤ c) (hok : OkW L u) (hM : Mem w M) (hA : AsR w M ga gm gi n cap V) :
    Calls Tryz.prog 133 #[.pointer (some ⟨ga, 0, none⟩), .slice (some ⟨bk, ok, none⟩) 3 ck, .slice A u.length c] w (HR M ga gm gi n cap V w (onlyB (rev e0) (rev e1) (rev e2) u)) := by
  rcases hws with ⟨rfl, rfl⟩ | ⟨b, o, rfl, hcell⟩
  · exact rAonly_nil hL hx0 hx1 hx2 M bk ok ck w hr0 hr1 hr2 hk0 hk1 hk2 hM hA
  · exact rAonly_some hL hx0 hx1 hx2 M u b o bk ok c ck w hr0 hr1 hr2 hk0 hk1 hk2 hcell hc hok hM hA
end Go.Proofs.YtgdnhlckodhhgaaGreatDoor
