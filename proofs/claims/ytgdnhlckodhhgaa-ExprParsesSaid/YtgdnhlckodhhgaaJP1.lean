/-
  The law ExprParses: it returns true.
-/
import Derived.Test.YtgdnhlckodhhgaaJL
import Derived.Test.YtgdnhlckodhhgaaJE8
import Derived.Test.YtgdnhlckodhhgaaJG
namespace Go.Proofs.Ytgdnhlckodhhgaa
open Go.RowKit
set_option linter.unusedVariables false
set_option linter.unusedSimpArgs false
theorem reads_size {s : Bs} {o : E × Int × Int} (h : Reads s o) : o.1.size ≤ 40 := by
  have hz : zeroE.size ≤ 40 := by decide
  have hv : ∀ a : E, verdict a = 0 → a.size ≤ 40 := by
    intro a hv
    rw [verdict] at hv
    split at hv
    · cases hv
    · omega
  rcases h with ⟨_, rfl⟩ | ⟨_, k, x, _, rfl⟩
  · exact hz
  · unfold outc
    split
    · exact hz
    · split
      · exact hz
      · split
        · split
          · exact hv _ (by assumption)
          · exact hz
        · exact hz
set_option maxRecDepth 100000 in
set_option maxHeartbeats 4000000 in
theorem ExprParses_calls (s : Bs) (w : World) : Calls Try.prog 3 #[.string (bs s)] w fun e w' => e = .returned (.bool true) ∧ Kp [] w w' := by
  have hz := bs_size s
  have HKn := Hid.mk known_calls
  by_cases hl : 16384 < s.length
  · have hl' : (16384 : Int) < (s.length : Int) := by omega
    go_enter Try.func3, Try.ntmps3
    go_wp2_with fail
    refine (HKn.out w).mono ?_
    rintro en w1 ⟨rfl, hk1⟩
    have H1 := Hid.mk hk1
    clear hk1
    go_wp2_with fail
    go_ret
    exact ⟨rfl, H1.out⟩
  · have hl' : ¬ (16384 : Int) < (s.length : Int) := by omega
    obtain ⟨o, ho, hP⟩ := Parse_calls s (by omega)
    have HP := Hid.mk (hP w _ (mem_none w))
    have HO := Hid.mk ho
    clear hP ho
    go_enter Try.func3, Try.ntmps3
    go_wp2_with fail
    refine HP.out.mono ?_
    rintro en w1 ⟨A, c, M1, rfl, he1, hM1, hE1, hk1⟩
    have hb1 := Box.new hM1 #[.int .i64 o.1.op, .string (bs o.1.s), .slice A o.1.l.length c] 25
    have HR := Hid.mk (rParse_calls (by omega) HO.out (hM1.alloc (.cells #[.int .i64 o.1.op, .string (bs o.1.s), .slice A o.1.l.length c] 25)))
    have H1 := Hid.mk (And.intro he1 (And.intro hb1 hk1))
    clear he1 hM1 hE1 hk1 hb1 HP
    go_wp2_with fail
    refine HR.out.mono ?_
    rintro en w2 ⟨B, d, M2, rfl, he2, hM2, hE2, hk2⟩
    have hb1 := H1.out.2.1.kp hk2 (by simp) hE2 (by simp)
    have hb2 := (hb1.alloc (.cells #[.int .i64 o.1.op, .string (bs o.1.s), .slice B o.1.l.length d] 25))
    have hb3 := Box.new hM2 #[.int .i64 o.1.op, .string (bs o.1.s), .slice B o.1.l.length d] 25
    obtain ⟨⟨p0, p1, p2⟩, _, _, _⟩ := hb2.three
    obtain ⟨⟨q0, q1, q2⟩, _, _, _⟩ := hb3.three
    have HS := Hid.mk (rSame_calls o.1.size o.1 o.1 A B c d _ M2 (H1.out.1.ext hE2) he2 (hM2.alloc (.cells #[.int .i64 o.1.op, .string (bs o.1.s), .slice B o.1.l.length d] 25)) (Nat.le_refl _) (by have := reads_size HO.out; omega))
    rw [same_self] at HS
    have H2 := Hid.mk ((((H1.out.2.2).alloc (.cells #[.int .i64 o.1.op, .string (bs o.1.s), .slice A o.1.l.length c] 25)).trans hk2).alloc (.cells #[.int .i64 o.1.op, .string (bs o.1.s), .slice B o.1.l.length d] 25))
    clear hb1 hb2 hb3 he2 hM2 hE2 hk2
    go_wp2_with fail
    refine HS.out.mono ?_
    rintro en w3 ⟨rfl, hk3⟩
    have H3 := Hid.mk (H2.out.trans hk3)
    clear hk3
    clear p0 p1 p2 q0 q1 q2
    go_wp2_with fail
    refine (HKn.out w3).mono ?_
    rintro en w4 ⟨rfl, hk4⟩
    have H4 := Hid.mk (H3.out.trans hk4)
    clear hk4
    go_wp2_with fail
    go_ret
    exact ⟨rfl, H4.out⟩
end Go.Proofs.Ytgdnhlckodhhgaa
