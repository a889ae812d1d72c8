/-
  The reference's asker: isIgnored.
-/
import Derived.Test.YtgdnhlckodhhgaaGreatDoorJVH
import Derived.Test.YtgdnhlckodhhgaaGreatDoorJVI
namespace Go.Proofs.YtgdnhlckodhhgaaGreatDoor
open Go.RowKit
set_option linter.unusedVariables false
set_option linter.unusedSimpArgs false
theorem ign_yes {p q : List Bs → Bool} {u : List Bs} {m : Nat} (hm : m < 2 ^ u.length) (h1 : p (cutToR m u u.length).a = true) (h2 : (cutToR m u u.length).rs.all (starB q) = true) : ignR p q u = true := by
  unfold ignR
  rw [List.any_eq_true]
  exact ⟨m, by rw [List.mem_range]; exact hm, by rw [h1, h2]; rfl⟩
theorem ign_no {p q : List Bs → Bool} {u : List Bs} (h : ∀ m, m < 2 ^ u.length → (p (cutToR m u u.length).a && (cutToR m u u.length).rs.all (starB q)) = false) : ignR p q u = false := by
  unfold ignR
  rw [List.any_eq_false]
  intro m hm
  rw [List.mem_range] at hm
  rw [h m hm]; simp
/-- What has been tested of a word's stretches. -/
def IG (q : List Bs → Bool) (m : Nat) (u : List Bs) (i : Nat) (al : Bool) (f : Nat) : Prop :=
  (i ≤ u.length ∧ f ≤ i ∧ ∃ is, (cutToR m u i).rs = is ++ [part u f i] ∧ al = is.all (starB q)) ∨ (i = u.length + 1 ∧ al = (cutToR m u u.length).rs.all (starB q))
theorem IG.le {q : List Bs → Bool} {m i f : Nat} {u : List Bs} {al : Bool} (h : IG q m u i al f) (hi : i ≤ u.length) : f ≤ i := by
  rcases h with h | h
  · exact h.2.1
  · omega
theorem IG.start (q : List Bs → Bool) (m : Nat) (u : List Bs) : IG q m u 0 true 0 := .inl ⟨Nat.zero_le _, Nat.le_refl _, [], by simp [cutToR, part], rfl⟩
theorem part_snoc {u : List Bs} {f i : Nat} (hf : f ≤ i) (hi : i < u.length) : part u f (i + 1) = part u f i ++ [u.getD i []] := by
  unfold part
  rw [List.take_succ_eq_append_getElem hi, List.drop_append_of_le_length (by rw [List.length_take]; omega)]
  simp [List.getD_eq_getElem?_getD, List.getElem?_eq_getElem hi]
theorem IG.one {q : List Bs → Bool} {m i f : Nat} {u : List Bs} {al : Bool} (h : IG q m u i al f) (hi : i < u.length) (hb : (m >>> i) % 2 = 1) : IG q m u (i + 1) (al && starB q (part u f i)) (i + 1) := by
  rcases h with ⟨h1, h2, is, h3, h4⟩ | ⟨h1, _⟩
  · refine .inl ⟨by omega, Nat.le_refl _, is ++ [part u f i], ?_, ?_⟩
    · rw [cutToR, cutR_one hb, part_self]
      simp only [h3]
    · rw [h4]; simp
  · omega
theorem IG.zero {q : List Bs → Bool} {m i f : Nat} {u : List Bs} {al : Bool} (h : IG q m u i al f) (hi : i < u.length) (hb : ¬ (m >>> i) % 2 = 1) : IG q m u (i + 1) al f := by
  rcases h with ⟨h1, h2, is, h3, h4⟩ | ⟨h1, _⟩
  · refine .inl ⟨by omega, by omega, is, ?_, h4⟩
    rw [cutToR, cutR_zero hb, part_snoc h2 hi]
    simp [h3, List.getLastD_eq_getLast?]
  · omega
theorem IG.last {q : List Bs → Bool} {m i f : Nat} {u : List Bs} {al : Bool} (h : IG q m u i al f) (hi : i = u.length) (f' : Nat) : IG q m u (i + 1) (al && starB q (part u f i)) f' := by
  rcases h with ⟨h1, h2, is, h3, h4⟩ | ⟨h1, _⟩
  · subst hi
    refine .inr ⟨rfl, ?_⟩
    rw [h3, h4]; simp
  · omega
theorem IG.done {q : List Bs → Bool} {m i f : Nat} {u : List Bs} {al : Bool} (h : IG q m u i al f) (hi : i = u.length + 1) : al = (cutToR m u u.length).rs.all (starB q) := by
  rcases h with ⟨h1, _⟩ | ⟨_, h⟩
  · omega
  · exact h
set_option maxRecDepth 100000 in
set_option maxHeartbeats 4000000 in
theorem rAignored_some {ga gm gi n cap L k0 k1 : Nat} {V : Bs → Bool} {e0 e1 : E} (hL : L ≤ 10) (hx0 : RH ga gm gi n cap V L k0 e0) (hx1 : RH ga gm gi n cap V L k1 e1) (M : Heap) (u : List Bs) (b ob bk ok c ck : Nat) (w : World) (hr0 : RN M gi n k0 e0) (hr1 : RN M gi n k1 e1)
    (hk0 : cellM M ⟨bk, ok, none⟩ = some (.int .i64 (k0 : Nat))) (hk1 : cellM M ⟨bk, ok + 1, none⟩ = some (.int .i64 (k1 : Nat))) (hcell : ∀ j, (h : j < u.length) → cellM M ⟨b, ob + j, none⟩ = some (.string (bs u[j]))) (hc : u.length ≤ c) (hok : OkW L u) (hM : Mem w M) (hA : AsR w M ga gm gi n cap V) :
    Calls Tryz.prog 132 #[.pointer (some ⟨ga, 0, none⟩), .slice (some ⟨bk, ok, none⟩) 2 ck, .slice (some ⟨b, ob, none⟩) u.length c] w (HR M ga gm gi n cap V w (ignR (rev e0) (rev e1) u)) := by
  have hul : u.length ≤ 10 := Nat.le_trans hok.1 hL
  obtain ⟨hga, hgm⟩ := hA.lt
  obtain ⟨N, hN⟩ : ∃ N : Nat, N = 2 ^ u.length := ⟨_, rfl⟩
  have hNi : (2 : Int) ^ u.length = (N : Int) := by rw [hN]; simp
  have hN1 : N ≤ 1024 := by rw [hN]; exact Nat.pow_le_pow_right (by omega) hul
  have HN := Hid.mk hN
  have HPT := Hid.mk (fun m (hm : m < 1099511627776) w (hM : Mem w M) => parted_calls (A := some ⟨b, ob, none⟩) (.inr ⟨b, ob, rfl, hcell⟩) hc (by omega) hm w hM)
  have HK := Hid.mk (And.intro hk0 hk1)
  have HOK := Hid.mk hok
  have HX0 := Hid.mk (fun b => hx0.row hr0 (base := b))
  have HSX := Hid.mk (fun (f i : Nat) (w : World) (hf : f ≤ i) (hi : i ≤ u.length) (hM : Mem w M) (hA : AsR w M ga gm gi n cap V) => by
    have H := rArow_calls (by omega : L ≤ 60) hx1 M (part u f i) (some ⟨b, ob + f, none⟩) (i - f) w hr1 (WvM.cut hcell hi) (by rw [part_length hi]; exact Nat.le_refl _) (hok.sub (part_sub u f i)) hM hA
    rwa [part_length hi] at H)
  have HS0 := Hid.mk (fun (w : World) (hM : Mem w M) (hA : AsR w M ga gm gi n cap V) => rArow_calls (by omega : L ≤ 60) hx1 M [] (some ⟨b, ob, none⟩) 0 w hr1 (.inr ⟨b, ob, rfl, by simp⟩) (Nat.le_refl _) ⟨Nat.zero_le _, by simp⟩ hM hA)
  have HH := Hid.mk (And.intro hM (And.intro hA (Kp.refl [gm] w)))
  clear hN hcell hk0 hk1 hok hx0 hx1 hr0 hr1 hM hA
  go_enter Tryz.func132, Tryz.ntmps132
  go_wp2_with fail
  go_loopg [7] N (fun kk v wr => ∃ m : Nat, m ≤ N ∧ kk = N - m ∧ v = .int .i64 (m : Nat) ∧ Hid (∀ m', m' < m → (rev e0 (cutToR m' u u.length).a && (cutToR m' u u.length).rs.all (starB (rev e1))) = false) ∧ Hid (Mem wr M ∧ AsR wr M ga gm gi n cap V ∧ Kp [gm] w wr))
  case atStart => exact ⟨0, Nat.zero_le _, by simp, rfl, Hid.mk (fun _ h => by omega), HH⟩
  case round =>
    clear HH
    obtain ⟨m, hm, hkk, rfl, HNO, HW⟩ := hrel
    by_cases hlt : m < N
    · have HP := Hid.mk (HPT.out m (by omega) wr HW.out.1)
      have HS := Hid.mk (cutR_full m u)
      have HBIT := Hid.mk (fun i => bit_is m i (by omega : m < 1099511627776))
      generalize hxe : cutToR m u u.length = X at *
      have HXE := Hid.mk hxe
      clear hxe
      go_wp2_with fail
      (with_reducible refine HP.out.mono ?_)
      intro en w3 hpt
      obtain ⟨v1, v2, rfl, o1, o2, hk3⟩ := hpt
      have hsz := HW.out.2.2.size
      have hMb : ∀ b, wr.heap.size ≤ b → M b = none := fun b hb => HW.out.1.ge hb
      have hM3 := HW.out.1.kp hk3 (by simp)
      have hA3 := HW.out.2.1.kp hk3 (by simp) (by simp)
      have HC0 := Hid.mk (HX0.out wr.heap.size hMb (by omega) (by omega) (HOK.out.sub HS.out.1) o1 hM3 hA3)
      have q0 := hM3.cell HK.out.1
      have H3 := Hid.mk (HW.out.2.2.trans hk3.nil)
      clear hMb o1 o2 hk3 hM3 hA3 HP hsz
      cases hva : rev e0 X.a with
      | false =>
        rw [hva] at HC0
        have HNN : Hid ((rev e0 X.a && X.rs.all (starB (rev e1))) = false) := Hid.mk (by rw [hva]; rfl)
        clear hva
        go_wp2_with fail
        (with_reducible refine HC0.out.mono ?_)
        rintro en w5 ⟨rfl, hM5, hA5, hk5⟩
        have HZ := Hid.mk (And.intro hM5 (And.intro hA5 (H3.out.trans hk5)))
        clear hM5 hA5 hk5 q0
        go_wp2_with fail
        go_roundg (N - (m + 1))
        case measure => omega
        case rel => exact ⟨m + 1, by omega, rfl, by go_num, Hid.mk (fun m' h => by
            by_cases h1 : m' = m
            · rw [h1, HXE.out]; exact HNN.out
            · exact HNO.out m' (by omega)), HZ⟩
      | true =>
        rw [hva] at HC0
        have HVA := Hid.mk hva
        clear hva
        go_wp2_with fail
        (with_reducible refine HC0.out.mono ?_)
        rintro en w5 ⟨rfl, hM5, hA5, hk5⟩
        have HZ5 := Hid.mk (And.intro hM5 (And.intro hA5 (H3.out.trans hk5)))
        clear hM5 hA5 hk5 q0 HC0
        go_wp2_with fail
        go_loopg [10, 11, 12] (u.length + 1) (fun kk v10 v11 v wy => ∃ (i f : Nat) (al : Bool), i ≤ u.length + 1 ∧ kk = u.length + 1 - i ∧ v10 = .bool al ∧ v11 = .int .i64 (f : Nat) ∧ v = .int .i64 (i : Nat) ∧ Hid (IG (rev e1) m u i al f) ∧ Hid (Mem wy M ∧ AsR wy M ga gm gi n cap V ∧ Kp [gm] w wy))
        case atStart => exact ⟨0, 0, true, Nat.zero_le _, by simp, rfl, rfl, rfl, Hid.mk (IG.start _ _ _), HZ5⟩
        case round =>
          clear HZ5
          obtain ⟨i, f, al, hi, hkk2, rfl, rfl, rfl, HI, HY⟩ := hrel
          have HKK2 := Hid.mk hkk2
          clear hkk2
          by_cases hil : i ≤ u.length
          · have hfi : f ≤ i := HI.out.le hil
            have hfi' : (f : Int) ≤ (i : Int) := by omega
            have hil' : (i : Int) ≤ (u.length : Int) := by omega
            have hic : (i : Int) ≤ (c : Int) := by omega
            by_cases he : i = u.length
            · have heq : ((i : Int) == (u.length : Int)) = true := by simp [he]
              have HE := Hid.mk he
              clear he
              obtain ⟨τ, W, x0, hx0', hC, hin2⟩ := class_of (fun w' => Mem w' M ∧ AsR w' M ga gm gi n cap V ∧ Kp [gm] w w') (w := wr.drew) ⟨HY.out.1.drew, HY.out.2.1.kp ((Kp.refl [] _).drew) (by simp) (by simp), HY.out.2.2.drew⟩
              have hne : Nonempty τ := ⟨x0⟩
              have d0 : ∀ x, (W x).cell? ⟨bk, ok + 1, none⟩ = some (.int .i64 (k1 : Nat)) := fun x => (hC x).1.cell HK.out.2
              have HC2 := Hid.mk hC
              have HIN := Hid.mk hin2
              have HXX := Hid.mk hx0'
              clear hC hin2 hx0'
              cases al with
              | false =>
                go_wp2_with fail
                refine wp_region_cls W x0 HXX.out (by kernel_rfl) (by kernel_rfl) ?_
                repeat (go_big_quiet_step (fail))
                refine wpQuiet_nil ?_
                rintro _ ⟨x, rfl⟩
                have HZ := Hid.mk (HC2.out x)
                clear HC2 HIN HXX d0 hne
                go_wp2_with fail
                go_roundg (u.length + 1 - (i + 1))
                case measure => have := HKK2.out; omega
                case rel => exact ⟨i + 1, i + 1, false, by omega, rfl, rfl, by go_num, by go_num, Hid.mk (HI.out.last HE.out _), HZ⟩
              | true =>
                obtain ⟨v5, hv5⟩ : ∃ v5, v5 = starB (rev e1) (part u f i) := ⟨_, rfl⟩
                have HV5 := Hid.mk hv5
                have hmono : ∀ x e w5, HR M ga gm gi n cap V (W x) v5 e w5 → e = .returned (.bool v5) ∧ ∃ x, w5 = W x := fun x e w5 h => by
                  obtain ⟨rfl, hM5, hA5, hk5⟩ := h
                  exact ⟨rfl, HIN.out _ ⟨hM5, hA5, (HC2.out x).2.2.trans hk5⟩⟩
                have HMO := Hid.mk hmono
                clear hv5 hmono
                by_cases hz : f = i
                · have HP : Hid (∀ x, Calls Tryz.prog 130 #[.pointer (some ⟨ga, 0, none⟩), .int .i64 (k1 : Nat), .slice (some ⟨b, ob, none⟩) 0 0] (W x) (fun e w' => e = .returned (.bool v5) ∧ ∃ x, w' = W x)) := Hid.mk (fun x => by
                    have H := HS0.out (W x) (HC2.out x).1 (HC2.out x).2.1
                    have e5 : starB (rev e1) [] = v5 := by rw [HV5.out, hz, part_self]
                    rw [e5] at H
                    exact H.mono (HMO.out x))
                  have HVZ : Hid (v5 = (true && starB (rev e1) (part u f i))) := Hid.mk (by rw [HV5.out]; rfl)
                  clear HMO HV5
                  subst hz
                  go_wp2_with fail
                  refine wp_region_cls W x0 HXX.out (by kernel_rfl) (by kernel_rfl) ?_
                  repeat (go_big_quiet_step (first | (go_at_call 130; exact HP.out _) | fail))
                  refine wpQuiet_nil ?_
                  rintro _ ⟨x, rfl⟩
                  have HZ := Hid.mk (HC2.out x)
                  clear HC2 HIN HXX d0 hne HP
                  go_wp2_with fail
                  go_roundg (u.length + 1 - (f + 1))
                  case measure => have := HKK2.out; omega
                  case rel => exact ⟨f + 1, f + 1, v5, by omega, rfl, rfl, by go_num, by go_num, Hid.mk (by rw [HVZ.out]; exact HI.out.last HE.out _), HZ⟩
                · have HP : Hid (∀ x, Calls Tryz.prog 130 #[.pointer (some ⟨ga, 0, none⟩), .int .i64 (k1 : Nat), .slice (some ⟨b, ob + f, none⟩) (i - f) (i - f)] (W x) (fun e w' => e = .returned (.bool v5) ∧ ∃ x, w' = W x)) := Hid.mk (fun x => by
                    have H := HSX.out f i (W x) hfi hil (HC2.out x).1 (HC2.out x).2.1
                    rw [← HV5.out] at H
                    exact H.mono (HMO.out x))
                  have HVZ : Hid (v5 = (true && starB (rev e1) (part u f i))) := Hid.mk (by rw [HV5.out]; rfl)
                  clear HMO HV5
                  have h1 : ¬ i = f := by omega
                  have h2 : ¬ (f : Int) = (i : Int) := by omega
                  have h3 : ¬ (i : Int) - (f : Int) = 0 := by omega
                  have h4 : ¬ (i : Int) = (f : Int) := by omega
                  have h5 : (f : Int) < (i : Int) := by omega
                  have h6 : ¬ i - f = 0 := by omega
                  go_wp2_with fail
                  refine wp_region_cls W x0 HXX.out (by kernel_rfl) (by kernel_rfl) ?_
                  repeat (go_big_quiet_step (first | (go_at_call 130; exact HP.out _) | fail))
                  refine wpQuiet_nil ?_
                  rintro _ ⟨x, rfl⟩
                  have HZ := Hid.mk (HC2.out x)
                  clear HC2 HIN HXX d0 hne HP
                  go_wp2_with fail
                  go_roundg (u.length + 1 - (i + 1))
                  case measure => have := HKK2.out; omega
                  case rel => exact ⟨i + 1, i + 1, v5, by omega, rfl, rfl, by go_num, by go_num, Hid.mk (by rw [HVZ.out]; exact HI.out.last HE.out _), HZ⟩
            · have heq : ((i : Int) == (u.length : Int)) = false := by simp; omega
              have hbit := HBIT.out i
              by_cases hd : (m >>> i) % 2 = 1
              · rw [hd] at hbit
                have HD := Hid.mk hd
                have HLT : Hid (i < u.length) := Hid.mk (by omega)
                clear hd he
                obtain ⟨τ, W, x0, hx0', hC, hin2⟩ := class_of (fun w' => Mem w' M ∧ AsR w' M ga gm gi n cap V ∧ Kp [gm] w w') (w := wr.drew) ⟨HY.out.1.drew, HY.out.2.1.kp ((Kp.refl [] _).drew) (by simp) (by simp), HY.out.2.2.drew⟩
                have hne : Nonempty τ := ⟨x0⟩
                have d0 : ∀ x, (W x).cell? ⟨bk, ok + 1, none⟩ = some (.int .i64 (k1 : Nat)) := fun x => (hC x).1.cell HK.out.2
                have HC2 := Hid.mk hC
                have HIN := Hid.mk hin2
                have HXX := Hid.mk hx0'
                clear hC hin2 hx0'
                cases al with
                | false =>
                  go_wp2_with fail
                  refine wp_region_cls W x0 HXX.out (by kernel_rfl) (by kernel_rfl) ?_
                  repeat (go_big_quiet_step (fail))
                  refine wpQuiet_nil ?_
                  rintro _ ⟨x, rfl⟩
                  have HZ := Hid.mk (HC2.out x)
                  clear HC2 HIN HXX d0 hne
                  go_wp2_with fail
                  go_roundg (u.length + 1 - (i + 1))
                  case measure => have := HKK2.out; omega
                  case rel => exact ⟨i + 1, i + 1, false, by omega, rfl, rfl, by go_num, by go_num, Hid.mk (HI.out.one HLT.out HD.out), HZ⟩
                | true =>
                  obtain ⟨v5, hv5⟩ : ∃ v5, v5 = starB (rev e1) (part u f i) := ⟨_, rfl⟩
                  have HV5 := Hid.mk hv5
                  have hmono : ∀ x e w5, HR M ga gm gi n cap V (W x) v5 e w5 → e = .returned (.bool v5) ∧ ∃ x, w5 = W x := fun x e w5 h => by
                    obtain ⟨rfl, hM5, hA5, hk5⟩ := h
                    exact ⟨rfl, HIN.out _ ⟨hM5, hA5, (HC2.out x).2.2.trans hk5⟩⟩
                  have HMO := Hid.mk hmono
                  clear hv5 hmono
                  by_cases hz : f = i
                  · have HP : Hid (∀ x, Calls Tryz.prog 130 #[.pointer (some ⟨ga, 0, none⟩), .int .i64 (k1 : Nat), .slice (some ⟨b, ob, none⟩) 0 0] (W x) (fun e w' => e = .returned (.bool v5) ∧ ∃ x, w' = W x)) := Hid.mk (fun x => by
                      have H := HS0.out (W x) (HC2.out x).1 (HC2.out x).2.1
                      have e5 : starB (rev e1) [] = v5 := by rw [HV5.out, hz, part_self]
                      rw [e5] at H
                      exact H.mono (HMO.out x))
                    have HVZ : Hid (v5 = (true && starB (rev e1) (part u f i))) := Hid.mk (by rw [HV5.out]; rfl)
                    clear HMO HV5
                    subst hz
                    go_wp2_with fail
                    refine wp_region_cls W x0 HXX.out (by kernel_rfl) (by kernel_rfl) ?_
                    repeat (go_big_quiet_step (first | (go_at_call 130; exact HP.out _) | fail))
                    refine wpQuiet_nil ?_
                    rintro _ ⟨x, rfl⟩
                    have HZ := Hid.mk (HC2.out x)
                    clear HC2 HIN HXX d0 hne HP
                    go_wp2_with fail
                    go_roundg (u.length + 1 - (f + 1))
                    case measure => have := HKK2.out; omega
                    case rel => exact ⟨f + 1, f + 1, v5, by omega, rfl, rfl, by go_num, by go_num, Hid.mk (by rw [HVZ.out]; exact HI.out.one HLT.out HD.out), HZ⟩
                  · have HP : Hid (∀ x, Calls Tryz.prog 130 #[.pointer (some ⟨ga, 0, none⟩), .int .i64 (k1 : Nat), .slice (some ⟨b, ob + f, none⟩) (i - f) (i - f)] (W x) (fun e w' => e = .returned (.bool v5) ∧ ∃ x, w' = W x)) := Hid.mk (fun x => by
                      have H := HSX.out f i (W x) hfi hil (HC2.out x).1 (HC2.out x).2.1
                      rw [← HV5.out] at H
                      exact H.mono (HMO.out x))
                    have HVZ : Hid (v5 = (true && starB (rev e1) (part u f i))) := Hid.mk (by rw [HV5.out]; rfl)
                    clear HMO HV5
                    have h1 : ¬ i = f := by omega
                    have h2 : ¬ (f : Int) = (i : Int) := by omega
                    have h3 : ¬ (i : Int) - (f : Int) = 0 := by omega
                    have h4 : ¬ (i : Int) = (f : Int) := by omega
                    have h5 : (f : Int) < (i : Int) := by omega
                    have h6 : ¬ i - f = 0 := by omega
                    go_wp2_with fail
                    refine wp_region_cls W x0 HXX.out (by kernel_rfl) (by kernel_rfl) ?_
                    repeat (go_big_quiet_step (first | (go_at_call 130; exact HP.out _) | fail))
                    refine wpQuiet_nil ?_
                    rintro _ ⟨x, rfl⟩
                    have HZ := Hid.mk (HC2.out x)
                    clear HC2 HIN HXX d0 hne HP
                    go_wp2_with fail
                    go_roundg (u.length + 1 - (i + 1))
                    case measure => have := HKK2.out; omega
                    case rel => exact ⟨i + 1, i + 1, v5, by omega, rfl, rfl, by go_num, by go_num, Hid.mk (by rw [HVZ.out]; exact HI.out.one HLT.out HD.out), HZ⟩
              · have hd0 : (m >>> i) % 2 = 0 := by omega
                rw [hd0] at hbit
                have HD := Hid.mk hd
                have HLT : Hid (i < u.length) := Hid.mk (by omega)
                clear hd hd0 he
                go_wp2_with fail
                go_roundg (u.length + 1 - (i + 1))
                case measure => have := HKK2.out; omega
                case rel => exact ⟨i + 1, f, al, by omega, rfl, rfl, by go_num, by go_num, Hid.mk (HI.out.zero HLT.out HD.out), HY⟩
          · have hie : i = u.length + 1 := by omega
            have hnl : ¬ ((i : Int) ≤ (u.length : Int)) := by omega
            have HDN := Hid.mk (HI.out.done hie)
            clear hie
            cases al with
            | true =>
              have HT : Hid (ignR (rev e0) (rev e1) u = true) := Hid.mk (ign_yes (m := m) (by rw [← HN.out]; exact hlt) (by rw [HXE.out]; exact HVA.out) HDN.out.symm)
              go_wp2_with fail
              go_ret
              exact ⟨ret_bool HT.out.symm, HY.out⟩
            | false =>
              have HNN : Hid ((rev e0 X.a && X.rs.all (starB (rev e1))) = false) := Hid.mk (by have := HDN.out; rw [HXE.out] at this; rw [← this]; simp)
              go_wp2_with fail
              go_roundg (N - (m + 1))
              case measure => omega
              case rel => exact ⟨m + 1, by omega, rfl, by go_num, Hid.mk (fun m' h => by
                  by_cases h1 : m' = m
                  · rw [h1, HXE.out]; exact HNN.out
                  · exact HNO.out m' (by omega)), HY⟩
    · obtain rfl : m = N := by omega
      have hnlt : ¬ ((m : Int) < (m : Int)) := by omega
      have HT : Hid (ignR (rev e0) (rev e1) u = false) := Hid.mk (ign_no (fun m' h => HNO.out m' (by rw [HN.out]; exact h)))
      go_wp2_with fail
      go_ret
      exact ⟨ret_bool HT.out.symm, HW.out⟩
end Go.Proofs.YtgdnhlckodhhgaaGreatDoor

/-
  The reference's asker: isIgnored, of whatever word.
-/
namespace Go.Proofs.YtgdnhlckodhhgaaGreatDoor
open Go.RowKit
set_option linter.unusedVariables false
set_option linter.unusedSimpArgs false
theorem starB_nil (q : List Bs → Bool) : starB q [] = true := by simp [starB, starE]
set_option maxRecDepth 100000 in
set_option maxHeartbeats 2000000 in
theorem rAignored_nil {ga gm gi n cap L k0 k1 : Nat} {V : Bs → Bool} {e0 e1 : E} (hL : L ≤ 10) (hx0 : RH ga gm gi n cap V L k0 e0) (hx1 : RH ga gm gi n cap V L k1 e1) (M : Heap) (bk ok c ck : Nat) (w : World) (hr0 : RN M gi n k0 e0) (hr1 : RN M gi n k1 e1)
    (hk0 : cellM M ⟨bk, ok, none⟩ = some (.int .i64 (k0 : Nat))) (hk1 : cellM M ⟨bk, ok + 1, none⟩ = some (.int .i64 (k1 : Nat))) (hM : Mem w M) (hA : AsR w M ga gm gi n cap V) :
    Calls Tryz.prog 132 #[.pointer (some ⟨ga, 0, none⟩), .slice (some ⟨bk, ok, none⟩) 2 ck, .slice none 0 c] w (HR M ga gm gi n cap V w (ignR (rev e0) (rev e1) [])) := by
  obtain ⟨hga, hgm⟩ := hA.lt
  have HB : Hid (ignR (rev e0) (rev e1) [] = rev e0 []) := Hid.mk (by simp [ignR, cutToR, starB_nil])
  have HPT : Hid (∀ w, Mem w M → Calls Tryz.prog 180 #[.slice none 0 c, .int .i64 0] w (PtEnd w [] [])) := Hid.mk (fun w hM => by
    have H := parted_calls (M := M) (u := []) (A := none) (c := c) (m := 0) (.inl ⟨rfl, rfl⟩) (Nat.zero_le _) (by simp) (by omega) w hM
    exact H)
  have HP := Hid.mk (HPT.out w hM)
  have hc0 : (0 : Int) ≤ (c : Int) := by omega
  have HK := Hid.mk (And.intro hk0 hk1)
  have HX0 := Hid.mk (fun b => hx0.row hr0 (base := b) (u := []))
  have HSX := Hid.mk (fun (w : World) (hM : Mem w M) (hA : AsR w M ga gm gi n cap V) => rArow_calls (by omega : L ≤ 60) hx1 M [] none 0 w hr1 (.inl ⟨rfl, rfl⟩) (Nat.le_refl _) ⟨Nat.zero_le _, by simp⟩ hM hA)
  have HH := Hid.mk (And.intro hM (And.intro hA (Kp.refl [gm] w)))
  clear hk0 hk1 hx0 hx1 hr0 hr1 hM hA HPT
  go_enter Tryz.func132, Tryz.ntmps132
  go_wp2_with fail
  refine wp_loop_rounds 2 ?_
  rw [rounds_succ]
  go_wp2_with fail
  (with_reducible refine HP.out.mono ?_)
  intro en w3 hpt
  obtain ⟨v1, v2, rfl, o1, o2, hk3⟩ := hpt
  have hMb : ∀ b, w.heap.size ≤ b → M b = none := fun b hb => HH.out.1.ge hb
  have hM3 := HH.out.1.kp hk3 (by simp)
  have hA3 := HH.out.2.1.kp hk3 (by simp) (by simp)
  have HC0 := Hid.mk (HX0.out w.heap.size hMb (by omega) (by omega) ⟨Nat.zero_le _, by simp⟩ o1 hM3 hA3)
  have q0 := hM3.cell HK.out.1
  have H3 := Hid.mk ((Kp.refl [gm] w).trans hk3.nil)
  clear hMb o1 o2 hk3 hM3 hA3 HP
  cases hva : rev e0 [] with
  | false =>
    rw [hva] at HC0 HB
    clear hva
    go_wp2_with fail
    (with_reducible refine HC0.out.mono ?_)
    rintro en w5 ⟨rfl, hM5, hA5, hk5⟩
    have HZ := Hid.mk (And.intro hM5 (And.intro hA5 (H3.out.trans hk5)))
    clear hM5 hA5 hk5 q0
    go_wp2_with fail
    rw [rounds_succ]
    go_wp2_with fail
    go_ret
    exact ⟨ret_bool HB.out.symm, HZ.out⟩
  | true =>
    rw [hva] at HC0 HB
    clear hva
    go_wp2_with fail
    (with_reducible refine HC0.out.mono ?_)
    rintro en w5 ⟨rfl, hM5, hA5, hk5⟩
    have HY := Hid.mk (And.intro hM5 (And.intro hA5 (H3.out.trans hk5)))
    clear hM5 hA5 hk5 q0 HC0
    obtain ⟨τ, W, x0, hx0', hC, hin2⟩ := class_of (fun w' => Mem w' M ∧ AsR w' M ga gm gi n cap V ∧ Kp [gm] w w') (w := w5.drew) ⟨HY.out.1.drew, HY.out.2.1.kp ((Kp.refl [] _).drew) (by simp) (by simp), HY.out.2.2.drew⟩
    have hne : Nonempty τ := ⟨x0⟩
    have d0 : ∀ x, (W x).cell? ⟨bk, ok + 1, none⟩ = some (.int .i64 (k1 : Nat)) := fun x => (hC x).1.cell HK.out.2
    have HC2 := Hid.mk hC
    have HIN := Hid.mk hin2
    have HXX := Hid.mk hx0'
    clear hC hin2 hx0'
    have HP : Hid (∀ x, Calls Tryz.prog 130 #[.pointer (some ⟨ga, 0, none⟩), .int .i64 (k1 : Nat), .slice none 0 0] (W x) (fun e w' => e = .returned (.bool true) ∧ ∃ x, w' = W x)) := Hid.mk (fun x => (HSX.out (W x) (HC2.out x).1 (HC2.out x).2.1).mono (fun e w5 h => by
      obtain ⟨rfl, hM5, hA5, hk5⟩ := h
      exact ⟨by rw [starB_nil], HIN.out _ ⟨hM5, hA5, (HC2.out x).2.2.trans hk5⟩⟩))
    go_wp2_with fail
    refine wp_loop_rounds 2 ?_
    rw [rounds_succ]
    go_wp2_with fail
    refine wp_region_cls W x0 HXX.out (by kernel_rfl) (by kernel_rfl) ?_
    repeat (go_big_quiet_step (first | (go_at_call 130; exact HP.out _) | fail))
    refine wpQuiet_nil ?_
    rintro _ ⟨x, rfl⟩
    have HZ := Hid.mk (HC2.out x)
    clear HC2 HIN HXX d0 hne HP
    go_wp2_with fail
    rw [rounds_succ]
    go_wp2_with fail
    go_ret
    exact ⟨ret_bool HB.out.symm, HZ.out⟩
theorem rAignored_calls {ga gm gi n cap L k0 k1 : Nat} {V : Bs → Bool} {e0 e1 : E} (hL : L ≤ 10) (hx0 : RH ga gm gi n cap V L k0 e0) (hx1 : RH ga gm gi n cap V L k1 e1) (M : Heap) (u : List Bs) (A : Option Addr) (bk ok c ck : Nat) (w : World) (hr0 : RN M gi n k0 e0) (hr1 : RN M gi n k1 e1)
    (hk0 : cellM M ⟨bk, ok, none⟩ = some (.int .i64 (k0 : Nat))) (hk1 : cellM M ⟨bk, ok + 1, none⟩ = some (.int .i64 (k1 : Nat))) (hws : WvM M A u) (hc : u.length ≤ c) (hok : OkW L u) (hM : Mem w M) (hA : AsR w M ga gm gi n cap V) :
    Calls Tryz.prog 132 #[.pointer (some ⟨ga, 0, none⟩), .slice (some ⟨bk, ok, none⟩) 2 ck, .slice A u.length c] w (HR M ga gm gi n cap V w (ignR (rev e0) (rev e1) u)) := by
  rcases hws with ⟨rfl, rfl⟩ | ⟨b, o, rfl, hcell⟩
  · exact rAignored_nil hL hx0 hx1 M bk ok c ck w hr0 hr1 hk0 hk1 hM hA
  · exact rAignored_some hL hx0 hx1 M u b o bk ok c ck w hr0 hr1 hk0 hk1 hcell hc hok hM hA
end Go.Proofs.YtgdnhlckodhhgaaGreatDoor
