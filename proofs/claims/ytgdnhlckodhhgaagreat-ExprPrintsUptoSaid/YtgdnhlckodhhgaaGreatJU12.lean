/-
  The law ExprPrints: it returns true.
-/
import Derived.Test.YtgdnhlckodhhgaaGreatJZ
import Derived.Test.YtgdnhlckodhhgaaGreatJX
import Derived.Test.YtgdnhlckodhhgaaGreatJY
import Derived.Test.YtgdnhlckodhhgaaGreatJL
namespace Go.Proofs.YtgdnhlckodhhgaaGreat
open Go.RowKit
set_option linter.unusedVariables false
set_option linter.unusedSimpArgs false
noncomputable def txtR (e : E) : Bs × Int := if verdict e = 0 then (e.txt, 0) else ([], verdict e)
theorem Text_any {e : E} (hm : e.mass ≤ 1099511627776) (A : Option Addr) (c : Nat) (w : World) (M : Heap) (hx : ExV M e A c) (hM : Mem w M) :
    Calls Tryz.prog 6 #[.agg #[.int .i64 e.op, .string (bs e.s), .slice A e.l.length c]] w fun en w' => en = .returned (.tuple #[.string (bs (txtR e).1), .int .i64 (txtR e).2]) ∧ Kp [] w w' := by
  by_cases hv : verdict e = 0
  · have e1 : txtR e = (e.txt, 0) := by unfold txtR; rw [if_pos hv]
    rw [e1]; exact Text_ok hv A c w M hx hM
  · have e1 : txtR e = ([], verdict e) := by unfold txtR; rw [if_neg hv]
    rw [e1]; exact Text_no hv hm A c w M hx hM
theorem rText_any {e : E} (hm : e.mass ≤ 1099511627776) (A : Option Addr) (c : Nat) (w : World) (M : Heap) (hx : ExV M e A c) (hM : Mem w M) :
    Calls Tryz.prog 7 #[.agg #[.int .i64 e.op, .string (bs e.s), .slice A e.l.length c]] w fun en w' => en = .returned (.tuple #[.string (bs (txtR e).1), .int .i64 (txtR e).2]) ∧ Kp [] w w' := by
  by_cases hv : verdict e = 0
  · have e1 : txtR e = (e.txt, 0) := by unfold txtR; rw [if_pos hv]
    rw [e1]; exact rText_ok hv A c w M hx hM
  · have e1 : txtR e = ([], verdict e) := by unfold txtR; rw [if_neg hv]
    rw [e1]; exact rText_no hv hm A c w M hx hM
theorem symR_len (e : E) : (symR e).1.length ≤ 1000000 := by
  unfold symR
  split
  · split
    · simp
    · show (dd (e.syms.mergeSort leB)).length ≤ _
      omega
  · simp
set_option maxRecDepth 100000 in
set_option maxHeartbeats 8000000 in
theorem ExprPrints_calls {a : E} {A : Option Addr} {c : Nat} {M : Heap} (ha : ExV M a A c) (hna : a.mass ≤ 1099511627776) (w : World) (hM : Mem w M) :
    Calls Tryz.prog 3 #[.agg #[.int .i64 a.op, .string (bs a.s), .slice A a.l.length c]] w fun e w' => e = .returned (.bool true) ∧ Kp [] w w' := by
  have HKn := Hid.mk known_calls
  have HB := Hid.mk (box_later hM (.int .i64 a.op) (.string (bs a.s)) (.slice A a.l.length c))
  have HO := Hid.mk (fun w' (hM' : Mem w' M) => over_calls ha hna w' hM')
  have HT := Hid.mk (fun w' (hM' : Mem w' M) => Text_any hna A c w' M ha hM')
  have HTr := Hid.mk (fun w' (hM' : Mem w' M) => rText_any hna A c w' M ha hM')
  have HS := Hid.mk (fun w' (hM' : Mem w' M) => eSymbols_calls hna A c w' M ha hM')
  have HSr := Hid.mk (fun w' (hM' : Mem w' M) => rSymbols_calls hna A c w' M ha hM')
  have hsl := symR_len a
  generalize symR a = sr at *
  generalize txtR a = tr at *
  obtain ⟨sl, sf⟩ := sr
  obtain ⟨tl, tf⟩ := tr
  dsimp only at HT HTr HS HSr hsl
  have hta := bs_toList tl
  clear ha hM
  cases hoa : overP a with
  | true =>
    rw [hoa] at HO
    clear hoa
    go_enter Tryz.func3, Tryz.ntmps3
    go_wp2_with fail
    refine (HO.out _ (HB.out _ (Kp.refl _ _)).1).mono ?_
    rintro en w2 ⟨rfl, hk2⟩
    have HZ := Hid.mk (HB.out _ hk2).2.2
    clear hk2
    go_wp2_with fail
    refine (HKn.out w2).mono ?_
    rintro en w3 ⟨rfl, hk3⟩
    have HZ3 := Hid.mk (HZ.out.trans hk3)
    clear hk3
    go_wp2_with fail
    go_ret
    exact ⟨rfl, HZ3.out⟩
  | false =>
    rw [hoa] at HO
    clear hoa
    go_enter Tryz.func3, Tryz.ntmps3
    go_wp2_with fail
    refine (HO.out _ (HB.out _ (Kp.refl _ _)).1).mono ?_
    rintro en w2 ⟨rfl, hk2⟩
    obtain ⟨hM2, ⟨p0, p1, p2⟩, hK2⟩ := HB.out _ hk2
    have HZ2 := Hid.mk (And.intro hM2 (And.intro hK2 hk2))
    clear hk2 hM2 hK2
    go_wp2_with fail
    refine (HT.out _ HZ2.out.1).mono ?_
    rintro en w3 ⟨rfl, hk3⟩
    clear p0 p1 p2
    have hk3' := HZ2.out.2.2.trans hk3
    obtain ⟨hM3, ⟨p0, p1, p2⟩, hK3⟩ := HB.out _ hk3'
    have HZ3 := Hid.mk (And.intro hM3 (And.intro hK3 hk3'))
    clear hk3 hM3 hK3 hk3'
    go_wp2_with fail
    refine (HTr.out _ HZ3.out.1).mono ?_
    rintro en w4 ⟨rfl, hk4⟩
    clear p0 p1 p2
    have hk4' := HZ3.out.2.2.trans hk4
    obtain ⟨hM4, ⟨p0, p1, p2⟩, hK4⟩ := HB.out _ hk4'
    have HZ4 := Hid.mk (And.intro hM4 (And.intro hK4 hk4'))
    clear hk4 hM4 hK4 hk4'
    go_wp2_with fail
    refine (HS.out _ HZ4.out.1).mono ?_
    intro en w5 hsy
    obtain ⟨v1, rfl, hown5, hk5⟩ := hsy
    clear p0 p1 p2
    have hk5' := HZ4.out.2.2.trans hk5
    obtain ⟨hM5, ⟨p0, p1, p2⟩, hK5⟩ := HB.out _ hk5'
    have HZ5 := Hid.mk (And.intro hM5 (And.intro hK5 (And.intro hk5' (RdL.of_own hown5))))
    clear hk5 hM5 hK5 hk5' hown5
    go_wp2_with fail
    refine (HSr.out _ HZ5.out.1).mono ?_
    intro en w6 hsy
    obtain ⟨v2, rfl, hown6, hk6⟩ := hsy
    have HSL := Hid.mk (SameL_calls w6 (HZ5.out.2.2.2.kp hk6) (RdL.of_own hown6) hsl)
    have HZ6 := Hid.mk (HZ5.out.2.1.trans hk6)
    clear p0 p1 p2 hk6 hown6
    go_wp2_with fail
    refine HSL.out.mono ?_
    rintro en w7 ⟨rfl, hk7⟩
    have HZ7 := Hid.mk (HZ6.out.trans hk7)
    clear hk7
    go_wp2_with fail
    refine (HKn.out w7).mono ?_
    rintro en w8 ⟨rfl, hk8⟩
    have HZ8 := Hid.mk (HZ7.out.trans hk8)
    clear hk8
    go_wp2_with fail
    go_ret
    exact ⟨rfl, HZ8.out⟩
end Go.Proofs.YtgdnhlckodhhgaaGreat
