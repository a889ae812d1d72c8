/-
  The reference's reader: on to the next token.
-/
import Derived.Test.YtgdnhlckodhhgaaJF
import Derived.BigGuardPart
namespace Go.Proofs.Ytgdnhlckodhhgaa
open Go.RowKit
set_option linter.unusedVariables false
set_option linter.unusedSimpArgs false
/-- How advance ends, the next token beginning at q. -/
def AdvEnd (w w' : World) (M : Heap) (g : Nat) (l q : Bs) (bd : Bool) : Prop :=
  Kp [g] w w' ∧ ∃ (nx : Int) (sy : ByteArray), PB w' M g l (at_ l q : Nat) nx (rkind (tk q)) sy bd ∧ ∀ u, tk q = some u → nx = (at_ l q + u.length : Nat) ∧ (rkind (tk q) = 1 → sy = bs (symOf u))
theorem PB.drewN {w : World} {M : Heap} {g : Nat} {l : Bs} {p nx kd : Int} {sy : ByteArray} {bd : Bool} (h : PB w M g l p nx kd sy bd) (n : Nat) : PB (w.drewN n) M g l p nx kd sy bd := Box.drewN h n
theorem PB.at_set {w : World} {M : Heap} {g : Nat} {l : Bs} {p nx kd : Int} {sy : ByteArray} {bd : Bool} (h : PB w M g l p nx kd sy bd) (p' : Int) : PB (w.setCell ⟨g, 1, none⟩ (.int .i64 p')) M g l p' nx kd sy bd := Box.set h 1 _
theorem adv_some {w w' : World} {M : Heap} {g : Nat} {l q u : Bs} {sy : ByteArray} {bd : Bool} (ht : tk q = some u) (hk : Kp [g] w w') (hb : PB w' M g l (at_ l q : Nat) (at_ l q + u.length : Nat) (rkind (some u)) sy bd) (hsy : rkind (some u) = 1 → sy = bs (symOf u)) : AdvEnd w w' M g l q bd := by
  refine ⟨hk, _, sy, by rw [ht]; exact hb, fun u' h => ?_⟩
  rw [ht] at h ⊢
  injection h with h
  subst h
  exact ⟨rfl, hsy⟩
theorem adv_none {w w' : World} {M : Heap} {g : Nat} {l q : Bs} {nx : Int} {sy : ByteArray} {bd : Bool} (ht : tk q = none) (hk : Kp [g] w w') (hb : PB w' M g l (at_ l q : Nat) nx 4 sy bd) : AdvEnd w w' M g l q bd :=
  ⟨hk, nx, sy, by rw [ht]; exact hb, fun u h => by rw [ht] at h; cases h⟩
theorem symOf_one {c : UInt8} (h : isNameI (c.toNat : Int) = true) : symOf [c] = [c] := by
  have h1 : c ≠ 92 := by rintro rfl; revert h; decide
  have h2 : c ≠ 60 := by rintro rfl; revert h; decide
  simp [symOf, h1, h2]
theorem ext_one {l q : Bs} {c : UInt8} (h : (c :: q) <:+ l) : (bs l).extract (at_ l (c :: q)) (at_ l (c :: q) + 1) = bs [c] := by
  obtain ⟨z, rfl⟩ := h
  have e : at_ (z ++ c :: q) (c :: q) = z.length := by simp [at_]
  rw [e, bs_extract]
  congr 1
  rw [show z ++ c :: q = (z ++ [c]) ++ q by simp, List.take_append]
  simp
  rw [List.take_of_length_le (by simp)]
  simp
theorem no_mark {c : UInt8} (h : c ∉ marks) : ((c.toNat : Int) == 95) = false ∧ ((c.toNat : Int) == 45) = false ∧ ((c.toNat : Int) == 124) = false ∧ ((c.toNat : Int) == 38) = false ∧ ((c.toNat : Int) == 37) = false ∧ ((c.toNat : Int) == 47) = false ∧ ((c.toNat : Int) == 126) = false ∧ ((c.toNat : Int) == 36) = false ∧ ((c.toNat : Int) == 42) = false ∧ ((c.toNat : Int) == 43) = false ∧ ((c.toNat : Int) == 63) = false ∧ ((c.toNat : Int) == 46) = false ∧ ((c.toNat : Int) == 33) = false ∧ ((c.toNat : Int) == 91) = false ∧ ((c.toNat : Int) == 93) = false := by
  simp only [marks, List.mem_cons, List.not_mem_nil, or_false, not_or] at h
  obtain ⟨h0, h1, h2, h3, h4, h5, h6, h7, h8, h9, h10, h11, h12, h13, h14⟩ := h
  exact ⟨cod_ne h0, cod_ne h1, cod_ne h2, cod_ne h3, cod_ne h4, cod_ne h5, cod_ne h6, cod_ne h7, cod_ne h8, cod_ne h9, cod_ne h10, cod_ne h11, cod_ne h12, cod_ne h13, cod_ne h14⟩
theorem no_sign {c : UInt8} (h : c ∉ marks) (h61 : c ≠ 61) : ((c.toNat : Int) == 95) = false ∧ ((c.toNat : Int) == 45) = false ∧ ((c.toNat : Int) == 124) = false ∧ ((c.toNat : Int) == 38) = false ∧ ((c.toNat : Int) == 37) = false ∧ ((c.toNat : Int) == 47) = false ∧ ((c.toNat : Int) == 126) = false ∧ ((c.toNat : Int) == 36) = false ∧ ((c.toNat : Int) == 42) = false ∧ ((c.toNat : Int) == 43) = false ∧ ((c.toNat : Int) == 63) = false ∧ ((c.toNat : Int) == 46) = false ∧ ((c.toNat : Int) == 33) = false ∧ ((c.toNat : Int) == 91) = false ∧ ((c.toNat : Int) == 93) = false ∧ ((c.toNat : Int) == 61) = false ∧ True := by
  obtain ⟨h0, h1, h2, h3, h4, h5, h6, h7, h8, h9, h10, h11, h12, h13, h14⟩ := no_mark h
  exact ⟨h0, h1, h2, h3, h4, h5, h6, h7, h8, h9, h10, h11, h12, h13, h14, cod_ne h61, trivial⟩
theorem mark_val {c : UInt8} (h : c ∈ marks) : (c.toNat : Int) = 95 ∨ (c.toNat : Int) = 45 ∨ (c.toNat : Int) = 124 ∨ (c.toNat : Int) = 38 ∨ (c.toNat : Int) = 37 ∨ (c.toNat : Int) = 47 ∨ (c.toNat : Int) = 126 ∨ (c.toNat : Int) = 36 ∨ (c.toNat : Int) = 42 ∨ (c.toNat : Int) = 43 ∨ (c.toNat : Int) = 63 ∨ (c.toNat : Int) = 46 ∨ (c.toNat : Int) = 33 ∨ (c.toNat : Int) = 91 ∨ (c.toNat : Int) = 93 := by
  simp only [marks, List.mem_cons, List.not_mem_nil, or_false] at h
  rcases h with rfl | rfl | rfl | rfl | rfl | rfl | rfl | rfl | rfl | rfl | rfl | rfl | rfl | rfl | rfl <;> decide
theorem last_mark {c : UInt8} (h : c ∈ marks) (h45 : ¬ (c.toNat : Int) = 45) (h124 : ¬ (c.toNat : Int) = 124) (h38 : ¬ (c.toNat : Int) = 38) (h37 : ¬ (c.toNat : Int) = 37) (h47 : ¬ (c.toNat : Int) = 47) (h126 : ¬ (c.toNat : Int) = 126) (h36 : ¬ (c.toNat : Int) = 36) (h42 : ¬ (c.toNat : Int) = 42) (h43 : ¬ (c.toNat : Int) = 43) (h63 : ¬ (c.toNat : Int) = 63) (h46 : ¬ (c.toNat : Int) = 46) (h33 : ¬ (c.toNat : Int) = 33) (h91 : ¬ (c.toNat : Int) = 91) (h93 : ¬ (c.toNat : Int) = 93) : ((c.toNat : Int) == 95) = true := by
  have hm := mark_val h
  rw [beq_iff_eq]
  omega
theorem rk_2 : rkind (some [61, 62]) = 2 := by simp [rkind]
theorem rk_3 : rkind (some [91, 93]) = 3 := by simp [rkind]
theorem rk_long2 {a b : UInt8} (h : a = 92 ∨ a = 60) : rkind (some [a, b]) = 1 := by
  rcases h with rfl | rfl <;> simp [rkind]
set_option maxRecDepth 100000 in
set_option maxHeartbeats 8000000 in
theorem advance_calls {g : Nat} {l r : Bs} {w : World} {M : Heap} {p kd : Int} {sy : ByteArray} {bd : Bool} (hs : r <:+ l) (hl : l.length ≤ 6000) (h : PB w M g l p (at_ l r : Nat) kd sy bd) :
    Calls Try.prog 22 #[.pointer (some ⟨g, 0, none⟩)] w fun e w' => e = .returned (.tuple #[]) ∧ AdvEnd w w' M g l (sk r) bd := by
  have HP := Hid.mk h
  have HS := Hid.mk hs
  obtain ⟨⟨c0, c1, c2, c3, c4, c5⟩, f1, f2, f3, f4, f5⟩ := h.cells
  have hsz := bs_size l
  clear h hs
  go_enter Try.func22, Try.ntmps22
  go_upto_block 0 with (fail)
  go_cut [] from 4 to 39 (fun wr => PB wr M g l (at_ l (sk r) : Nat) (at_ l r : Nat) kd sy bd ∧ Kp [g] w wr)
  case first =>
    go_wp2_with fail
    clear c0 c1 c2 c3 c4 c5 f1 f2 f3 f4 f5
    go_loopg [] r.length (fun k wr => ∃ r' : Bs, k = r'.length ∧ sk r' = sk r ∧ r' <:+ l ∧ PB wr M g l (at_ l r' : Nat) (at_ l r : Nat) kd sy bd ∧ Kp [g] w wr)
    case atStart => exact ⟨r, rfl, rfl, HS.out, HP.out.at_set _, (Kp.refl _ _).setCell (.inl (by simp)) _⟩
    case round =>
      obtain ⟨j, hj, hs, hsf, hR', hK⟩ := hrel
      obtain ⟨⟨c0, c1, c2, c3, c4, c5⟩, f1, f2, f3, f4, f5⟩ := hR'.cells
      have A := Hid.mk (And.intro hj (And.intro hs (And.intro hsf (And.intro hR' hK))))
      cases j with
      | nil =>
        have hp : at_ l [] = l.length := by simp [at_]
        rw [hp] at c1
        clear hj hs hR' hK hp hsf
        go_wp2_with fail
        go_quiet (fail)
        go_wp2_with fail
        go_meet
        case rel =>
          obtain ⟨hj, hs, hsf, hR', hK⟩ := A.out
          rw [← hs]
          exact ⟨hR'.drewN _, hK.drewN _⟩
      | cons c j =>
        obtain ⟨hlt, hb⟩ := bs_get hsf
        have hp : at_ l (c :: j) + (j.length + 1) = l.length := by have := hsf.length_le; simp [at_] at *; omega
        generalize hpe : at_ l (c :: j) = p at *
        have Hp := Hid.mk hpe
        clear hpe
        clear hj hs hR' hK hsf
        have h0 : (0 : Int) ≤ p := by omega
        have h1 : (p : Int) < (l.length : Int) := by omega
        by_cases hc : c = 32
        · have hb32 : ((c.toNat : Int) == 32) = true := by rw [hc]; rfl
          go_wp2_with fail
          go_quiet (fail)
          go_wp2_with fail
          obtain ⟨hj, hs, hsf, hR', hK⟩ := A.out
          go_roundg (gk - 1)
          case measure => rw [hj]; simp
          case rel =>
            refine ⟨j, by rw [hj]; simp, by rw [← hs, hc]; rfl, (List.suffix_cons _ _).trans hsf, ?_, (hK.drewN nq).setCell (.inl (by simp)) _⟩
            have e : (at_ l j : Int) = (p : Int) + 1 := by simp [at_]; omega
            rw [e]
            exact (hR'.drewN nq).at_set _
        · have hb32 : ((c.toNat : Int) == 32) = false := cod_ne hc
          go_wp2_with fail
          go_quiet (fail)
          go_wp2_with fail
          go_meet
          case rel =>
            obtain ⟨hj, hs, hsf, hR', hK⟩ := A.out
            have e : sk r = c :: j := by rw [← hs, sk, List.dropWhile_cons, if_neg (by simpa using hc)]
            rw [e, Hp.out]
            exact ⟨hR'.drewN _, hK.drewN _⟩
  case rest =>
    obtain ⟨hR', hK⟩ := hcut
    have hqs := (sk_suffix r).trans HS.out
    obtain ⟨q, hq⟩ : ∃ q, q = sk r := ⟨_, rfl⟩
    rw [← hq] at hR' hqs
    have Hq := Hid.mk hq
    clear hq
    have hp : at_ l q + q.length = l.length := by have := hqs.length_le; simp [at_]; omega
    clear c0 c1 c2 c3 c4 c5 f1 f2 f3 f4 f5
    obtain ⟨⟨c0, c1, c2, c3, c4, c5⟩, f1, f2, f3, f4, f5⟩ := hR'.cells
    have A := Hid.mk (And.intro hR' hK)
    clear hR' hK
    have HQ := Hid.mk hqs
    clear hqs
    cases q with
    | nil =>
      have Hp := Hid.mk hp
      have hp' : at_ l [] = l.length := by simp [at_]
      rw [hp'] at c1
      clear hp hp'
      go_wp2_with fail
      go_quiet (fail)
      go_wp2_with fail
      go_region
      go_wp2_with fail
      refine bodyPost_ret (results_none rfl _ _ _) rfl ?_
      rw [← Hq.out]
      have hr : rkind (some []) = 0 := rfl
      have hl0 : at_ l [] = l.length := by simp [at_]
      refine ⟨rfl, adv_some (u := []) (sy := sy) rfl ((((A.out.2.drewN _).setCell (.inl (by simp)) _).setCell (.inl (by simp)) _).setCell (.inl (by simp)) _) ?_ (fun h => absurd h (by decide))⟩
      rw [hr, hl0, show ((l.length + ([] : Bs).length : Nat) : Int) = (l.length : Int) by simp]
      exact Box.set (Box.set (Box.set (Box.drewN A.out.1 _) 1 _) 2 _) 3 _
    | cons c q' =>
      obtain ⟨hlt, hb⟩ := bs_get HQ.out
      have hg1 := fun j hj => get_suf HQ.out j hj
      have hx1 := ext_suf HQ.out
      have hx0 := ext_one HQ.out
      generalize hpe : at_ l (c :: q') = p at *
      have Hp := Hid.mk hpe
      have HG := Hid.mk hg1
      have HX := Hid.mk hx1
      have HX0 := Hid.mk hx0
      clear hpe hg1 hx1 hx0
      have hp2 : p + 1 + q'.length = l.length := by simp at hp; omega
      clear hp
      have h0 : (0 : Int) ≤ p := by omega
      have h1 : (p : Int) < (l.length : Int) := by omega
      go_wp2_with fail
      go_quiet (fail)
      go_wp2_with fail
      go_quiet (fail)
      go_wp2_with fail
      go_quiet (fail)
      go_upto_if 95 with (fail)
      go_cut [3] from 40 to 107 (fun f wr => f = .int .u8 ((q'.headD 0).toNat : Int) ∧ PB wr M g l (p : Nat) ((p : Int) + 1) kd sy bd ∧ Kp [g] w wr)
      case first =>
        have HB := Hid.mk (fun a b => And.intro (show PB (((wc.drewN a).setCell ⟨g, 2, none⟩ (.int .i64 ((p : Int) + 1))).drewN b) M g l (p : Nat) ((p : Int) + 1) kd sy bd from Box.drewN (Box.set (Box.drewN A.out.1 a) 2 _) b) (((A.out.2.drewN a).setCell (p := ⟨g, 2, none⟩) (.inl (by simp)) (.int .i64 ((p : Int) + 1))).drewN b))
        cases q' with
        | nil =>
          have h2 : ¬ ((p : Int) + 1 < (l.length : Int)) := by simp at hp2; omega
          go_wp2_with fail
          go_meet
          case rel => exact ⟨rfl, (HB.out _ _).1, (HB.out _ _).2⟩
        | cons d q'' =>
          have h2 : (p : Int) + 1 < (l.length : Int) := by simp at hp2; omega
          obtain ⟨hlt1, hx1⟩ := HG.out 0 (by simp)
          simp only [Nat.add_zero, List.getElem_cons_zero] at hlt1 hx1
          go_wp2_with fail
          go_quiet (fail)
          go_wp2_with fail
          go_meet
          case rel => exact ⟨rfl, (HB.out _ _).1.drewN _, (HB.out _ _).2.drewN _⟩
      case rest =>
        obtain ⟨rfl, hB, hK⟩ := hcut
        clear c0 c1 c2 c3 c4 c5 f1 f2 f3 f4 f5 A
        obtain ⟨⟨c0, c1, c2, c3, c4, c5⟩, f1, f2, f3, f4, f5⟩ := hB.cells
        have A := Hid.mk (And.intro hB hK)
        clear hB hK
        generalize hf : q'.headD 0 = f
        have Hf := Hid.mk hf
        clear hf
        by_cases hn : isNameI (c.toNat : Int) = true
        · have HT := Hid.mk (tk_name (q := q') (c := c) hn)
          have hx0 := HX0.out
          go_wp2_with (first | (go_at_call 46; refine (risWord_calls _ _).mono ?_; rintro e w' ⟨rfl, rfl⟩) | (go_at_call 48; refine (risSym_calls _ _).mono ?_; rintro e w' ⟨rfl, rfl⟩))
          go_region
          go_wp2_with (first | (go_at_call 46; refine (risWord_calls _ _).mono ?_; rintro e w' ⟨rfl, rfl⟩) | (go_at_call 48; refine (risSym_calls _ _).mono ?_; rintro e w' ⟨rfl, rfl⟩))
          go_end0
          have hr : rkind (some [c]) = 1 := by simp only [rkind]; exact if_pos hn
          rw [← Hq.out]
          refine ⟨rfl, adv_some HT.out ((((A.out.2.setCell (.inl (by simp)) _).setCell (.inl (by simp)) _).drew)) ?_ (fun _ => (congrArg bs (symOf_one hn)).symm)⟩
          rw [Hp.out, hr, show ((p + [c].length : Nat) : Int) = (p : Int) + 1 by simp]
          exact Box.drew (Box.set (Box.set A.out.1 3 _) 4 _)
        · replace hn := Bool.eq_false_iff.2 hn
          by_cases h60 : c = 60
          · have b60 : ((c.toNat : Int) == 60) = true := by rw [h60]; rfl
            have Hc := Hid.mk h60
            clear h60
            go_wp2_with (first | (go_at_call 46; refine (risWord_calls _ _).mono ?_; rintro e w' ⟨rfl, rfl⟩) | (go_at_call 48; refine (risSym_calls _ _).mono ?_; rintro e w' ⟨rfl, rfl⟩))
            refine (long_calls (q := q') (bd := bd) (by rw [← Hc.out]; exact HQ.out) hl (by rw [← Hc.out, Hp.out]; exact A.out.1)).mono ?_
            rintro e w2 ⟨rfl, hk2, he⟩
            go_wp2_with fail
            go_end0
            rw [← Hq.out]
            have hcq := Hc.out
            by_cases hL : longOk q' = true
            · rw [if_pos hL] at he
              have hr4 := ((longOk_iff q').1 hL).2.2.2
              have hr2 := ((longOk_iff q').1 hL).1
              have hlen := lt_len hr4
              have ht : tk (c :: q') = some ((60 :: q').take (run q' + 2)) := by rw [hcq, tk_lt, if_pos hL]
              have hr : rkind (some ((60 :: q').take (run q' + 2))) = 1 := rkind_long (by rw [hlen]; omega)
              refine ⟨rfl, adv_some ht (A.out.2.trans hk2) ?_ (fun _ => (congrArg bs (lt_sym hr4)).symm)⟩
              rw [hr, hlen, hcq]
              exact he
            · rw [if_neg hL] at he
              refine ⟨rfl, adv_none (nx := (p : Int) + 1) (sy := sy) (by rw [hcq, tk_lt, if_neg hL]) (A.out.2.trans hk2) ?_⟩
              rw [hcq]
              exact he
          · have b60 : ((c.toNat : Int) == 60) = false := cod_ne h60
            by_cases h92 : c = 92
            · have b92 : ((c.toNat : Int) == 92) = true := by rw [h92]; rfl
              obtain ⟨n0, n1, n2, n3, n4, n5, n6, n7, n8, n9, n10, n11, n12, n13, n14, n15, n16⟩ := no_sign (c := c) (by rw [h92]; decide) (by rw [h92]; decide)
              have Hc := Hid.mk h92
              clear h92 h60
              by_cases hs : isSignI (f.toNat : Int) = true
              · by_cases hw : isNameI (f.toNat : Int) = true
                · have HT := Hid.mk (show tk (c :: q') = none by rw [Hc.out, tk_esc, Hf.out, if_neg (fun x => by have := x.2.2; simp only [nameB, cod] at this; rw [hw] at this; cases this)])
                  go_wp2_with (first | (go_at_call 46; refine (risWord_calls _ _).mono ?_; rintro e w' ⟨rfl, rfl⟩) | (go_at_call 48; refine (risSym_calls _ _).mono ?_; rintro e w' ⟨rfl, rfl⟩))
                  go_end0
                  rw [← Hq.out]
                  refine ⟨rfl, adv_none (nx := (p : Int) + 1) (sy := sy) HT.out (A.out.2.setCell (.inl (by simp)) _) ?_⟩
                  rw [Hp.out]
                  exact Box.set A.out.1 3 _
                · replace hw := Bool.eq_false_iff.2 hw
                  cases q' with
                  | nil =>
                    obtain rfl : 0 = f := Hf.out
                    exact absurd hs (by decide)
                  | cons d q'' =>
                    obtain rfl : d = f := Hf.out
                    have h2 : (p : Int) + 1 < (l.length : Int) := by simp at hp2; omega
                    have hx1 := HX.out 1
                    have HT := Hid.mk (show tk (c :: d :: q'') = some [c, d] by rw [Hc.out, tk_esc, if_pos ⟨by simp, hs, hw⟩]; rfl)
                    go_wp2_with (first | (go_at_call 46; refine (risWord_calls _ _).mono ?_; rintro e w' ⟨rfl, rfl⟩) | (go_at_call 48; refine (risSym_calls _ _).mono ?_; rintro e w' ⟨rfl, rfl⟩))
                    go_region
                    go_wp2_with fail
                    go_end0
                    rw [← Hq.out]
                    refine ⟨rfl, adv_some HT.out ((((A.out.2.setCell (.inl (by simp)) _).setCell (.inl (by simp)) _).setCell (.inl (by simp)) _).drew) ?_ (fun _ => by rw [Hc.out])⟩
                    rw [Hp.out, Hc.out, show rkind (some [92, d]) = 1 from rk_long2 (.inl rfl), show ((p + [92, d].length : Nat) : Int) = (p : Int) + 1 + 1 by simp <;> omega]
                    exact Box.drew (Box.set (Box.set (Box.set A.out.1 3 _) 4 _) 2 _)
              · replace hs := Bool.eq_false_iff.2 hs
                have HT := Hid.mk (show tk (c :: q') = none by rw [Hc.out, tk_esc, Hf.out, if_neg (fun x => by have := x.2.1; simp only [signB, cod] at this; rw [hs] at this; cases this)])
                go_wp2_with (first | (go_at_call 46; refine (risWord_calls _ _).mono ?_; rintro e w' ⟨rfl, rfl⟩) | (go_at_call 48; refine (risSym_calls _ _).mono ?_; rintro e w' ⟨rfl, rfl⟩))
                go_end0
                rw [← Hq.out]
                refine ⟨rfl, adv_none (nx := (p : Int) + 1) (sy := sy) HT.out (A.out.2.setCell (.inl (by simp)) _) ?_⟩
                rw [Hp.out]
                exact Box.set A.out.1 3 _
            · have b92 : ((c.toNat : Int) == 92) = false := cod_ne h92
              by_cases h61 : c = 61
              · have b61 : ((c.toNat : Int) == 61) = true := by rw [h61]; rfl
                by_cases hd : f = 62
                · have bd62 : ((f.toNat : Int) == 62) = true := by rw [hd]; rfl
                  have HT := Hid.mk (show tk (c :: q') = some [61, 62] by rw [h61, tk_eq, if_pos (by have hd : q'.headD 0 = _ := Hf.out.trans hd; cases q' with | nil => exact absurd hd (by decide) | cons d q'' => exact congrArg some hd)])
                  clear h61 hd h92 h60
                  go_wp2_with (first | (go_at_call 46; refine (risWord_calls _ _).mono ?_; rintro e w' ⟨rfl, rfl⟩) | (go_at_call 48; refine (risSym_calls _ _).mono ?_; rintro e w' ⟨rfl, rfl⟩))
                  go_end0
                  rw [← Hq.out]
                  refine ⟨rfl, adv_some (sy := sy) HT.out ((A.out.2.setCell (.inl (by simp)) _).setCell (.inl (by simp)) _) ?_ (fun h => absurd h (by first | (rw [rk_2]; omega) | (rw [rk_3]; omega)))⟩
                  rw [Hp.out, rk_2, show ((p + [(61 : UInt8), 62].length : Nat) : Int) = (p : Int) + 1 + 1 by simp <;> omega]
                  exact Box.set (Box.set A.out.1 3 _) 2 _
                · have bd62 : ((f.toNat : Int) == 62) = false := cod_ne hd
                  have HT := Hid.mk (show tk (c :: q') = none by rw [h61, tk_eq, if_neg (fun e => hd (by rw [← Hf.out]; cases q' with | nil => cases e | cons d q'' => exact Option.some.inj e))])
                  obtain ⟨n0, n1, n2, n3, n4, n5, n6, n7, n8, n9, n10, n11, n12, n13, n14⟩ := no_mark (c := c) (by rw [h61]; decide)
                  clear h61 hd h92 h60
                  go_wp2_with (first | (go_at_call 46; refine (risWord_calls _ _).mono ?_; rintro e w' ⟨rfl, rfl⟩) | (go_at_call 48; refine (risSym_calls _ _).mono ?_; rintro e w' ⟨rfl, rfl⟩))
                  go_end0
                  rw [← Hq.out]
                  refine ⟨rfl, adv_none (nx := (p : Int) + 1) (sy := sy) HT.out (A.out.2.setCell (.inl (by simp)) _) ?_⟩
                  rw [Hp.out]
                  exact Box.set A.out.1 3 _
              · have b61 : ((c.toNat : Int) == 61) = false := cod_ne h61
                by_cases hm : c ∈ marks
                · by_cases h91 : c = 91 ∧ f = 93
                  · obtain ⟨h91, hd⟩ := h91
                    have b91 : ((c.toNat : Int) == 91) = true := by rw [h91]; rfl
                    have bd93 : ((f.toNat : Int) == 93) = true := by rw [hd]; rfl
                    have HT := Hid.mk (show tk (c :: q') = some [91, 93] by rw [h91, tk_br, if_pos (by have hd : q'.headD 0 = _ := Hf.out.trans hd; cases q' with | nil => exact absurd hd (by decide) | cons d q'' => exact congrArg some hd)])
                    clear h91 hd h61 h92 h60 hm
                    go_wp2_with (first | (go_at_call 46; refine (risWord_calls _ _).mono ?_; rintro e w' ⟨rfl, rfl⟩) | (go_at_call 48; refine (risSym_calls _ _).mono ?_; rintro e w' ⟨rfl, rfl⟩))
                    go_end0
                    rw [← Hq.out]
                    refine ⟨rfl, adv_some (sy := sy) HT.out ((A.out.2.setCell (.inl (by simp)) _).setCell (.inl (by simp)) _) ?_ (fun h => absurd h (by first | (rw [rk_2]; omega) | (rw [rk_3]; omega)))⟩
                    rw [Hp.out, rk_3, show ((p + [(91 : UInt8), 93].length : Nat) : Int) = (p : Int) + 1 + 1 by simp <;> omega]
                    exact Box.set (Box.set A.out.1 3 _) 2 _
                  · have HT := Hid.mk (show tk (c :: q') = some [c] by
                      by_cases h : c = 91
                      · have hd : f ≠ 93 := fun e => h91 ⟨h, e⟩
                        rw [h, tk_br, if_neg (fun e => hd (by rw [← Hf.out]; cases q' with | nil => cases e | cons d q'' => exact Option.some.inj e))]
                      · exact tk_mark hm h)
                    have HR := Hid.mk (show rkind (some [c]) = (c.toNat : Int) by simp only [rkind]; exact if_neg (by rw [mark_noname hm]; simp))
                    have HNE := Hid.mk (show (1 : Int) ≠ (c.toNat : Int) by have := mark_val hm; omega)
                    have h93 : (c.toNat : Int) = 91 → ((f.toNat : Int) == 93) = false := fun e => cod_ne (fun e2 => h91 ⟨UInt8.toNat_inj.1 (by rw [show (91 : UInt8).toNat = 91 from rfl]; omega), e2⟩)
                    have HV := Hid.mk hm
                    have bNN : (((c.toNat : Int) == 91) && ((f.toNat : Int) == 93)) = false := by
                      by_cases h : (c.toNat : Int) = 91
                      · rw [h93 h]; simp
                      · rw [beq_eq_false_iff_ne.2 h]; rfl
                    have HN := Hid.mk bNN
                    clear h61 h92 h60 hm h91 h93 bNN
                    have hnx : ((c.toNat : Int) == 91) = false ∨ ((c.toNat : Int) == 91) = true ∧ ((f.toNat : Int) == 93) = false := by
                      have := HN.out
                      cases hh : ((c.toNat : Int) == 91)
                      · exact .inl rfl
                      · rw [hh] at this; exact .inr ⟨rfl, by simpa using this⟩
                    go_upto_region 19 with (first | (go_at_call 46; refine (risWord_calls _ _).mono ?_; rintro e w' ⟨rfl, rfl⟩) | (go_at_call 48; refine (risSym_calls _ _).mono ?_; rintro e w' ⟨rfl, rfl⟩))
                    go_cut [193] from 194 to 199 (fun v wr => v = .bool false ∧ wr = wc)
                    case first =>
                      rcases hnx with hnx | ⟨hnx, hny⟩
                      · go_wp2_with fail
                        go_meet
                        case rel => exact ⟨rfl, rfl⟩
                      · go_wp2_with fail
                        go_meet
                        case rel => exact ⟨rfl, rfl⟩
                    case rest =>
                      obtain ⟨rfl, rfl⟩ := hcut
                      clear hnx
                      go_upto_region 21 with (first | (go_at_call 46; refine (risWord_calls _ _).mono ?_; rintro e w' ⟨rfl, rfl⟩) | (go_at_call 48; refine (risSym_calls _ _).mono ?_; rintro e w' ⟨rfl, rfl⟩))
                      go_cut [211] from 212 to 269 (fun v w2 => v = .bool true ∧ w2 = wc)
                      case first =>
                        go_wp2_with fail
                        all_goals
                          go_meet
                          case rel => exact ⟨by first | rfl | exact congrArg Value.bool (last_mark HV.out (by assumption) (by assumption) (by assumption) (by assumption) (by assumption) (by assumption) (by assumption) (by assumption) (by assumption) (by assumption) (by assumption) (by assumption) (by assumption) (by assumption)), rfl⟩
                      case rest =>
                        obtain ⟨rfl, rfl⟩ := hcut
                        have hcb : (c.toNat : Int) ≤ 255 := by have := c.toNat_lt; omega
                        have hcz : (0 : Int) ≤ (c.toNat : Int) := by omega
                        go_wp2_with fail
                        go_end0
                        rw [← Hq.out]
                        refine ⟨rfl, adv_some (sy := sy) HT.out (A.out.2.setCell (.inl (by simp)) _) ?_ (fun h => absurd (h.symm.trans HR.out) HNE.out)⟩
                        rw [Hp.out, HR.out, show ((p + [c].length : Nat) : Int) = (p : Int) + 1 by simp]
                        exact Box.set A.out.1 3 _
                · have HT := Hid.mk (show tk (c :: q') = none from tk_other hn hm h61 (by rintro rfl; exact hm (by decide)) h92 h60)
                  obtain ⟨n0, n1, n2, n3, n4, n5, n6, n7, n8, n9, n10, n11, n12, n13, n14⟩ := no_mark (c := c) hm
                  clear h61 h92 h60 hm
                  go_wp2_with (first | (go_at_call 46; refine (risWord_calls _ _).mono ?_; rintro e w' ⟨rfl, rfl⟩) | (go_at_call 48; refine (risSym_calls _ _).mono ?_; rintro e w' ⟨rfl, rfl⟩))
                  go_end0
                  rw [← Hq.out]
                  refine ⟨rfl, adv_none (nx := (p : Int) + 1) (sy := sy) HT.out (A.out.2.setCell (.inl (by simp)) _) ?_⟩
                  rw [Hp.out]
                  exact Box.set A.out.1 3 _
end Go.Proofs.Ytgdnhlckodhhgaa
