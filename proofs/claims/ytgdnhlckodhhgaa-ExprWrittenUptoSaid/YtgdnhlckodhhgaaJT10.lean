/-
  The laws ExprBack and ExprWritten: they return true.
-/
import Derived.Test.YtgdnhlckodhhgaaJX
namespace Go.Proofs.Ytgdnhlckodhhgaa
open Go.RowKit
set_option linter.unusedVariables false
set_option linter.unusedSimpArgs false
/-- The program reads an expression's text as it. -/
theorem Parse_txt {a : E} (hv : verdict a = 0) (w : World) (M : Heap) (hM : Mem w M) : Calls Try.prog 8 #[.string (bs a.txt)] w (PEnd w M (a, 0, 0)) := by
  obtain ⟨o, ho, hP⟩ := Parse_calls a.txt (by have := txt_short hv; omega)
  have e := reads_one ho (reads_txt hv)
  subst e
  exact hP w M hM
theorem PEnd.out {w w' : World} {M : Heap} {a : E} {n f : Int} {e : Ending} (h : PEnd w M (a, n, f) e w') : ∃ A c M', e = .returned (.tuple #[.agg #[.int .i64 a.op, .string (bs a.s), .slice A a.l.length c], .int .i64 n, .int .i64 f]) ∧ ExV M' a A c ∧ Mem w' M' ∧ Ext w.heap.size M M' ∧ Kp [] w w' := h
set_option maxRecDepth 100000 in
set_option maxHeartbeats 8000000 in
theorem ExprBack_calls (s : Bs) (w : World) : Calls Try.prog 5 #[.string (bs s)] w fun e w' => e = .returned (.bool true) ∧ Kp [] w w' := by
  have hz := bs_size s
  have HKn := Hid.mk known_calls
  by_cases hl : 16384 < s.length
  · have hl' : (16384 : Int) < (s.length : Int) := by omega
    go_enter Try.func5, Try.ntmps5
    go_wp2_with fail
    refine (HKn.out w).mono ?_
    rintro en w1 ⟨rfl, hk1⟩
    have H1 := Hid.mk hk1
    clear hk1
    go_wp2_with fail
    go_ret
    exact ⟨rfl, H1.out⟩
  · have hl' : ¬ (16384 : Int) < (s.length : Int) := by omega
    obtain ⟨⟨a, n0, f0⟩, ho, hP⟩ := Parse_calls s (by omega)
    have HP := Hid.mk (hP w _ (mem_none w))
    by_cases hf : f0 = 0
    · have hv : verdict a = 0 := reads_ok ho hf
      obtain ⟨hv1, hv2, hv3⟩ := verdict_zero hv
      have hvw := okay_wide (okay_of a hv3)
      subst hf
      have HV := Hid.mk hv
      clear hP ho hv hv2 hv3
      go_enter Try.func5, Try.ntmps5
      go_wp2_with fail
      refine HP.out.mono ?_
      intro en w1 hp
      obtain ⟨A, c, M1, rfl, he1, hM1, hE1, hk1⟩ := hp.out
      clear hp
      have hb1 := Box.new hM1 #[.int .i64 a.op, .string (bs a.s), .slice A a.l.length c] 25
      have HT := Hid.mk (Text_ok HV.out A c _ M1 he1 (hM1.alloc (.cells #[.int .i64 a.op, .string (bs a.s), .slice A a.l.length c] 25)))
      have H1 := Hid.mk (And.intro he1 (And.intro (hM1.alloc (.cells #[.int .i64 a.op, .string (bs a.s), .slice A a.l.length c] 25)) (And.intro hb1 (hk1.alloc (.cells #[.int .i64 a.op, .string (bs a.s), .slice A a.l.length c] 25)))))
      clear he1 hM1 hE1 hk1 hb1 HP
      go_wp2_with fail
      refine HT.out.mono ?_
      rintro en w2 ⟨rfl, hk2⟩
      have HP2 := Hid.mk (Parse_txt HV.out w2 M1 (H1.out.2.1.kp hk2 (by simp)))
      have H2 := Hid.mk (And.intro (Box.same H1.out.2.2.1 hk2 (by simp)) (H1.out.2.2.2.trans hk2))
      clear hk2 HT
      go_wp2_with fail
      refine HP2.out.mono ?_
      intro en w3 hp
      obtain ⟨B, d, M3, rfl, he3, hM3, hE3, hk3⟩ := hp.out
      clear hp
      have hb1 := (Box.kp H2.out.1 hk3 (by simp) hE3 (Box.lt H2.out.1)).alloc (.cells #[.int .i64 a.op, .string (bs a.s), .slice B a.l.length d] 25)
      have hb3 := Box.new hM3 #[.int .i64 a.op, .string (bs a.s), .slice B a.l.length d] 25
      have hM4 := hM3.alloc (.cells #[.int .i64 a.op, .string (bs a.s), .slice B a.l.length d] 25)
      have hea := H1.out.1.ext hE3
      have HVa := Hid.mk (Validate_calls a A c _ M3 hea hM4 (by omega) (by omega))
      rw [HV.out] at HVa
      obtain ⟨⟨p0, p1, p2⟩, _, _, _⟩ := hb1.three
      obtain ⟨⟨q0, q1, q2⟩, _, _, _⟩ := hb3.three
      have H3 := Hid.mk (And.intro hM4 (And.intro hea (And.intro he3 (And.intro hb1 (And.intro hb3 ((H2.out.2.trans hk3).alloc (.cells #[.int .i64 a.op, .string (bs a.s), .slice B a.l.length d] 25)))))))
      clear he3 hM3 hE3 hk3 hb1 hb3 hM4 hea HP2
      go_wp2_with fail
      refine HVa.out.mono ?_
      rintro en w4 ⟨rfl, hk4⟩
      have hb1 := Box.same H3.out.2.2.2.1 hk4 (by simp)
      have hb3 := Box.same H3.out.2.2.2.2.1 hk4 (by simp)
      have hM5 := H3.out.1.kp hk4 (by simp)
      have HS := Hid.mk (Same_calls a.size a a B A d c _ M3 H3.out.2.2.1 H3.out.2.1 hM5 (Nat.le_refl _) (by omega))
      rw [same_self] at HS
      clear p0 p1 p2 q0 q1 q2
      obtain ⟨⟨p0, p1, p2⟩, _, _, _⟩ := hb1.three
      obtain ⟨⟨q0, q1, q2⟩, _, _, _⟩ := hb3.three
      have H4 := Hid.mk (H3.out.2.2.2.2.2.trans hk4)
      clear hb1 hb3 hM5 hk4 HVa
      go_wp2_with fail
      refine HS.out.mono ?_
      rintro en w5 ⟨rfl, hk5⟩
      have H5 := Hid.mk (H4.out.trans hk5)
      clear hk5 p0 p1 p2 q0 q1 q2 HS
      go_wp2_with fail
      refine (HKn.out w5).mono ?_
      rintro en w6 ⟨rfl, hk6⟩
      have H6 := Hid.mk (H5.out.trans hk6)
      clear hk6
      go_wp2_with fail
      go_ret
      exact ⟨rfl, H6.out⟩
    · have hff : (f0 != 0) = true := by simpa using hf
      clear hf ho hP
      go_enter Try.func5, Try.ntmps5
      go_wp2_with fail
      refine HP.out.mono ?_
      intro en w1 hp
      obtain ⟨A, c, M1, rfl, he1, hM1, hE1, hk1⟩ := hp.out
      have H1 := Hid.mk (hk1.alloc (.cells #[.int .i64 a.op, .string (bs a.s), .slice A a.l.length c] 25))
      clear hp he1 hM1 hE1 hk1 HP
      go_wp2_with fail
      refine (HKn.out _).mono ?_
      rintro en w2 ⟨rfl, hk2⟩
      have H2 := Hid.mk (H1.out.trans hk2)
      clear hk2
      go_wp2_with fail
      go_ret
      exact ⟨rfl, H2.out⟩
set_option maxRecDepth 100000 in
set_option maxHeartbeats 8000000 in
theorem ExprWritten_calls {a : E} {A : Option Addr} {c : Nat} {M : Heap} (ha : ExV M a A c) (hna : a.mass ≤ 1099511627776) (w : World) (hM : Mem w M) :
    Calls Try.prog 6 #[.agg #[.int .i64 a.op, .string (bs a.s), .slice A a.l.length c]] w fun e w' => e = .returned (.bool true) ∧ Kp [] w w' := by
  have hsa := size_mass a
  have hwa := wide_mass a
  have HKn := Hid.mk known_calls
  have H0 : Hid (∀ w', Kp [] (w.alloc (.cells #[.int .i64 a.op, .string (bs a.s), .slice A a.l.length c] 25)) w' → Mem w' M ∧ (w'.cell? ⟨w.heap.size, 0, none⟩ = some (.int .i64 a.op) ∧ w'.cell? ⟨w.heap.size, 1, none⟩ = some (.string (bs a.s)) ∧ w'.cell? ⟨w.heap.size, 2, none⟩ = some (.slice A a.l.length c)) ∧ Kp [] w w') := Hid.mk (fun w' hk => by
    have hm := (hM.alloc (.cells #[.int .i64 a.op, .string (bs a.s), .slice A a.l.length c] 25)).kp hk (by simp)
    have hx := (Box.new hM #[.int .i64 a.op, .string (bs a.s), .slice A a.l.length c] 25).same hk (by simp)
    exact ⟨hm, hx.three.1, ((Kp.refl _ _).alloc _).trans hk⟩)
  have HO := Hid.mk (fun w' (hM' : Mem w' M) => over_calls ha hna w' hM')
  have HVa := Hid.mk (fun w' hM' => Validate_calls a A c w' M ha hM' (by omega) (by omega))
  cases hoa : overP a with
  | true =>
    rw [hoa] at HO
    clear hoa ha hM
    go_enter Try.func6, Try.ntmps6
    go_wp2_with fail
    refine (HO.out _ (H0.out _ (Kp.refl _ _)).1).mono ?_
    rintro en w2 ⟨rfl, hk2⟩
    have HZ := Hid.mk (H0.out _ hk2).2.2
    clear hk2
    go_wp2_with fail
    refine (HKn.out w2).mono ?_
    rintro en w3 ⟨rfl, hk3⟩
    have HZ3 := Hid.mk (HZ.out.trans hk3)
    clear hk3
    go_wp2_with fail
    go_ret
    exact ⟨rfl, HZ3.out⟩
  | false =>
    rw [hoa] at HO
    clear hoa
    by_cases hv : verdict a = 0
    · obtain ⟨hv1, hv2, hv3⟩ := verdict_zero hv
      have HT := Hid.mk (fun w' hM' => Text_ok hv A c w' M ha hM')
      have HE := Hid.mk ha
      have HV := Hid.mk hv
      clear hv hv2 hv3 ha hM HVa
      go_enter Try.func6, Try.ntmps6
      go_wp2_with fail
      refine (HO.out _ (H0.out _ (Kp.refl _ _)).1).mono ?_
      rintro en w2 ⟨rfl, hk2⟩
      obtain ⟨hM2, ⟨p0, p1, p2⟩, hK2⟩ := H0.out _ hk2
      have HZ := Hid.mk (And.intro hM2 (And.intro hK2 hk2))
      clear hk2 hM2 hK2
      go_wp2_with fail
      refine (HT.out _ HZ.out.1).mono ?_
      rintro en w3 ⟨rfl, hk3⟩
      clear p0 p1 p2
      have hk3' := HZ.out.2.2.trans hk3
      obtain ⟨hM3, ⟨p0, p1, p2⟩, hK3⟩ := H0.out _ hk3'
      have HP := Hid.mk (Parse_txt HV.out w3 M hM3)
      have HZ3 := Hid.mk (And.intro hM3 (And.intro hK3 hk3'))
      clear hk3 hk3' hM3 hK3 HT p0 p1 p2
      go_wp2_with fail
      refine HP.out.mono ?_
      intro en w4 hp
      obtain ⟨B, d, M4, rfl, he4, hM4, hE4, hk4⟩ := hp.out
      clear hp
      have hk4' := HZ3.out.2.2.trans hk4
      have hk5' := hk4'.alloc (.cells #[.int .i64 a.op, .string (bs a.s), .slice B a.l.length d] 25)
      obtain ⟨_, ⟨p0, p1, p2⟩, hK5⟩ := H0.out _ hk5'
      have hb3 := Box.new hM4 #[.int .i64 a.op, .string (bs a.s), .slice B a.l.length d] 25
      obtain ⟨⟨q0, q1, q2⟩, _, _, _⟩ := hb3.three
      have HS := Hid.mk (Same_calls a.size a a B A d c _ M4 he4 (HE.out.ext hE4) (hM4.alloc (.cells #[.int .i64 a.op, .string (bs a.s), .slice B a.l.length d] 25)) (Nat.le_refl _) (by omega))
      rw [same_self] at HS
      have H5 := Hid.mk hK5
      clear he4 hM4 hE4 hk4 hk4' hk5' hK5 hb3 HP
      go_wp2_with fail
      refine HS.out.mono ?_
      rintro en w6 ⟨rfl, hk6⟩
      have H6 := Hid.mk (H5.out.trans hk6)
      clear hk6 p0 p1 p2 q0 q1 q2 HS
      go_wp2_with fail
      refine (HKn.out w6).mono ?_
      rintro en w7 ⟨rfl, hk7⟩
      have H7 := Hid.mk (H6.out.trans hk7)
      clear hk7
      go_wp2_with fail
      go_ret
      exact ⟨rfl, H7.out⟩
    · have HT := Hid.mk (fun w' hM' => Text_no hv hna A c w' M ha hM')
      have hv2 : (verdict a != 0) = true := by simpa using hv
      generalize verdict a = k at *
      clear hv ha hM
      go_enter Try.func6, Try.ntmps6
      go_wp2_with fail
      refine (HO.out _ (H0.out _ (Kp.refl _ _)).1).mono ?_
      rintro en w2 ⟨rfl, hk2⟩
      obtain ⟨hM2, ⟨p0, p1, p2⟩, hK2⟩ := H0.out _ hk2
      have HZ := Hid.mk (And.intro hM2 (And.intro hK2 hk2))
      clear hk2 hM2 hK2
      go_wp2_with fail
      refine (HT.out _ HZ.out.1).mono ?_
      rintro en w3 ⟨rfl, hk3⟩
      clear p0 p1 p2
      have hk3' := HZ.out.2.2.trans hk3
      obtain ⟨hM3, ⟨p0, p1, p2⟩, hK3⟩ := H0.out _ hk3'
      have HZ3 := Hid.mk (And.intro hM3 (And.intro hK3 hk3'))
      clear hk3 hk3' hM3 hK3 HT
      go_wp2_with fail
      refine (HVa.out _ HZ3.out.1).mono ?_
      rintro en w4 ⟨rfl, hk4⟩
      have HZ4 := Hid.mk (HZ3.out.2.1.trans hk4)
      clear hk4 p0 p1 p2
      go_wp2_with fail
      refine (HKn.out w4).mono ?_
      rintro en w5 ⟨rfl, hk5⟩
      have HZ5 := Hid.mk (HZ4.out.trans hk5)
      clear hk5
      go_wp2_with fail
      go_ret
      exact ⟨rfl, HZ5.out⟩
end Go.Proofs.Ytgdnhlckodhhgaa
