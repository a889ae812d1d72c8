/-
  The law ExprValidates: it returns true.
-/
import Derived.Test.YtgdnhlckodhhgaaJS2
import Derived.Test.YtgdnhlckodhhgaaJL
namespace Go.Proofs.Ytgdnhlckodhhgaa
open Go.RowKit
set_option linter.unusedVariables false
set_option linter.unusedSimpArgs false
set_option maxRecDepth 100000 in
set_option maxHeartbeats 8000000 in
theorem ExprValidates_calls {a b : E} {A B : Option Addr} {c d : Nat} {M : Heap} (ha : ExV M a A c) (hb : ExV M b B d) (hna : a.mass ≤ 1099511627776) (hnb : b.mass ≤ 1099511627776) (w : World) (hM : Mem w M) :
    Calls Try.prog 4 #[.agg #[.int .i64 a.op, .string (bs a.s), .slice A a.l.length c], .agg #[.int .i64 b.op, .string (bs b.s), .slice B b.l.length d]] w fun e w' => e = .returned (.bool true) ∧ Kp [] w w' := by
  have hsa := size_mass a
  have hwa := wide_mass a
  have H0 : Hid (∀ w', Kp [] ((w.alloc (.cells #[.int .i64 a.op, .string (bs a.s), .slice A a.l.length c] 25)).alloc (.cells #[.int .i64 b.op, .string (bs b.s), .slice B b.l.length d] 25)) w' → Mem w' M ∧ (w'.cell? ⟨w.heap.size, 0, none⟩ = some (.int .i64 a.op) ∧ w'.cell? ⟨w.heap.size, 1, none⟩ = some (.string (bs a.s)) ∧ w'.cell? ⟨w.heap.size, 2, none⟩ = some (.slice A a.l.length c)) ∧ (w'.cell? ⟨w.heap.size + 1, 0, none⟩ = some (.int .i64 b.op) ∧ w'.cell? ⟨w.heap.size + 1, 1, none⟩ = some (.string (bs b.s)) ∧ w'.cell? ⟨w.heap.size + 1, 2, none⟩ = some (.slice B b.l.length d)) ∧ Kp [] w w') := Hid.mk (fun w' hk => by
    obtain ⟨hx, hy⟩ := two_boxes hM #[.int .i64 a.op, .string (bs a.s), .slice A a.l.length c] #[.int .i64 b.op, .string (bs b.s), .slice B b.l.length d] 25 25
    exact ⟨((hM.alloc _).alloc _).kp hk (by simp), (hx.same hk (by simp)).three.1, (hy.same hk (by simp)).three.1, (((Kp.refl _ _).alloc _).alloc _).trans hk⟩)
  have HKn := Hid.mk known_calls
  have HVa := Hid.mk (fun w' hM' => Validate_calls a A c w' M ha hM' (by omega) (by omega))
  have HVr := Hid.mk (fun w' hM' => rValidate_calls a A c w' M ha hM' (by omega) (by omega))
  have HSa := Hid.mk (fun w' hM' => Size_calls a.size a A c w' M ha hM' (Nat.le_refl _) (by omega))
  have HSr := Hid.mk (fun w' hM' => rSize_calls a.size a A c w' M ha hM' (Nat.le_refl _) (by omega))
  have HEa := Hid.mk (fun w' hM' => Same_calls a.size a b A B c d w' M ha hb hM' (Nat.le_refl _) (by omega))
  have HEr := Hid.mk (fun w' hM' => rSame_calls a.size a b A B c d w' M ha hb hM' (Nat.le_refl _) (by omega))
  have HEs := Hid.mk (fun w' hM' => Same_calls a.size a a A A c c w' M ha ha hM' (Nat.le_refl _) (by omega))
  rw [same_self] at HEs
  have HOa := Hid.mk (fun w' (hM' : Mem w' M) => over_calls ha hna w' hM')
  have HOb := Hid.mk (fun w' (hM' : Mem w' M) => over_calls hb hnb w' hM')
  clear ha hb hM
  go_enter Try.func4, Try.ntmps4
  go_upto_region 1 with fail
  generalize ((w.alloc (.cells #[.int .i64 a.op, .string (bs a.s), .slice A a.l.length c] 25)).alloc (.cells #[.int .i64 b.op, .string (bs b.s), .slice B b.l.length d] 25)) = w0 at *
  obtain ⟨hM0, ⟨p0, p1, p2⟩, ⟨q0, q1, q2⟩, hK0⟩ := H0.out w0 (Kp.refl _ _)
  have hkk0 := Kp.refl [] w0
  cases hoa : overP a with
  | true =>
    rw [hoa] at HOa
    clear hoa
    go_wp2_with fail
    refine (HOa.out _ hM0).mono ?_
    rintro en w2 ⟨rfl, hk2⟩
    clear p0 p1 p2 q0 q1 q2
    have HZ := Hid.mk (hK0.trans hk2)
    clear hk2
    go_wp2_with fail
    refine (HKn.out w2).mono ?_
    rintro en w3 ⟨rfl, hk3⟩
    have HZ3 := Hid.mk (HZ.out.trans hk3)
    clear hk3
    go_wp2_with fail
    go_ret
    exact ⟨rfl, HZ3.out⟩
  | false =>
    rw [hoa] at HOa
    clear hoa
    go_wp2_with fail
    refine (HOa.out _ hM0).mono ?_
    rintro en w2 ⟨rfl, hk2⟩
    clear p0 p1 p2 q0 q1 q2 hkk0
    obtain ⟨hM2, ⟨p0, p1, p2⟩, ⟨q0, q1, q2⟩, hK2⟩ := H0.out w2 hk2
    have HZ := Hid.mk (And.intro hM2 (And.intro hK2 hk2))
    clear hk2 hM2 hK2
    go_wp2_with fail
    refine (HOb.out _ HZ.out.1).mono ?_
    rintro en w3 ⟨rfl, hk3⟩
    clear p0 p1 p2 q0 q1 q2
    have hk3' := HZ.out.2.2.trans hk3
    clear hk3
    obtain ⟨hM3, ⟨p0, p1, p2⟩, ⟨q0, q1, q2⟩, hK3⟩ := H0.out w3 hk3'
    have HZ3 := Hid.mk (And.intro hM3 (And.intro hK3 hk3'))
    clear hM3 hK3 hk3'
    cases hob : overP b with
    | true =>
      clear hob
      go_wp2_with fail
      refine (HKn.out w3).mono ?_
      rintro en w4 ⟨rfl, hk4⟩
      have HZ4 := Hid.mk (HZ3.out.2.1.trans hk4)
      clear hk4
      go_wp2_with fail
      go_ret
      exact ⟨rfl, HZ4.out⟩
    | false =>
      clear hob
      go_upto_region 3 with fail
      have hkd : Kp [] w0 w3.drew := HZ3.out.2.2.drew
      generalize Value.int .i64 a.op = oa at *
      generalize Value.string (bs a.s) = sa at *
      generalize Value.slice A a.l.length c = la at *
      generalize Value.int .i64 b.op = ob at *
      generalize Value.string (bs b.s) = sb at *
      generalize Value.slice B b.l.length d = lb at *
      go_region_held3 (fun w' => w'.cell? ⟨w.heap.size, 0, none⟩ = some oa ∧ w'.cell? ⟨w.heap.size, 1, none⟩ = some sa ∧ w'.cell? ⟨w.heap.size, 2, none⟩ = some la ∧ w'.cell? ⟨w.heap.size + 1, 0, none⟩ = some ob ∧ w'.cell? ⟨w.heap.size + 1, 1, none⟩ = some sb ∧ w'.cell? ⟨w.heap.size + 1, 2, none⟩ = some lb) (go_keep) (first
        | (go_at_call 12; (with_reducible refine (HVa.out _ (H0.out _ (by assumption)).1).mono ?_); rintro e w5 ⟨rfl, hk5⟩; have hk6 := Kp.trans (by assumption) hk5; have hz := H0.out _ hk6; have z0 := hz.2.1.1; have z1 := hz.2.1.2.1; have z2 := hz.2.1.2.2; have z3 := hz.2.2.1.1; have z4 := hz.2.2.1.2.1; have z5 := hz.2.2.1.2.2; clear hz hk5)
        | (go_at_call 13; (with_reducible refine (HVr.out _ (H0.out _ (by assumption)).1).mono ?_); rintro e w5 ⟨rfl, hk5⟩; have hk6 := Kp.trans (by assumption) hk5; have hz := H0.out _ hk6; have z0 := hz.2.1.1; have z1 := hz.2.1.2.1; have z2 := hz.2.1.2.2; have z3 := hz.2.2.1.1; have z4 := hz.2.2.1.2.1; have z5 := hz.2.2.1.2.2; clear hz hk5)
        | (go_at_call 14; (with_reducible refine (HSa.out _ (H0.out _ (by assumption)).1).mono ?_); rintro e w5 ⟨rfl, hk5⟩; have hk6 := Kp.trans (by assumption) hk5; have hz := H0.out _ hk6; have z0 := hz.2.1.1; have z1 := hz.2.1.2.1; have z2 := hz.2.1.2.2; have z3 := hz.2.2.1.1; have z4 := hz.2.2.1.2.1; have z5 := hz.2.2.1.2.2; clear hz hk5)
        | (go_at_call 15; (with_reducible refine (HSr.out _ (H0.out _ (by assumption)).1).mono ?_); rintro e w5 ⟨rfl, hk5⟩; have hk6 := Kp.trans (by assumption) hk5; have hz := H0.out _ hk6; have z0 := hz.2.1.1; have z1 := hz.2.1.2.1; have z2 := hz.2.1.2.2; have z3 := hz.2.2.1.1; have z4 := hz.2.2.1.2.1; have z5 := hz.2.2.1.2.2; clear hz hk5)
        | (go_at_call 16; (with_reducible refine (HEa.out _ (H0.out _ (by assumption)).1).mono ?_); rintro e w5 ⟨rfl, hk5⟩; have hk6 := Kp.trans (by assumption) hk5; have hz := H0.out _ hk6; have z0 := hz.2.1.1; have z1 := hz.2.1.2.1; have z2 := hz.2.1.2.2; have z3 := hz.2.2.1.1; have z4 := hz.2.2.1.2.1; have z5 := hz.2.2.1.2.2; clear hz hk5)
        | (go_at_call 16; (with_reducible refine (HEs.out _ (H0.out _ (by assumption)).1).mono ?_); rintro e w5 ⟨rfl, hk5⟩; have hk6 := Kp.trans (by assumption) hk5; have hz := H0.out _ hk6; have z0 := hz.2.1.1; have z1 := hz.2.1.2.1; have z2 := hz.2.1.2.2; have z3 := hz.2.2.1.1; have z4 := hz.2.2.1.2.1; have z5 := hz.2.2.1.2.2; clear hz hk5)
        | (go_at_call 10; (with_reducible refine (HEr.out _ (H0.out _ (by assumption)).1).mono ?_); rintro e w5 ⟨rfl, hk5⟩; have hk6 := Kp.trans (by assumption) hk5; have hz := H0.out _ hk6; have z0 := hz.2.1.1; have z1 := hz.2.1.2.1; have z2 := hz.2.1.2.2; have z3 := hz.2.2.1.1; have z4 := hz.2.2.1.2.1; have z5 := hz.2.2.1.2.2; clear hz hk5)
        | (go_at_call 7; (with_reducible refine (HKn.out _).mono ?_); rintro e w5 ⟨rfl, hk5⟩; have hk6 := Kp.trans (by assumption) hk5; have hz := H0.out _ hk6; have z0 := hz.2.1.1; have z1 := hz.2.1.2.1; have z2 := hz.2.1.2.2; have z3 := hz.2.2.1.1; have z4 := hz.2.2.1.2.1; have z5 := hz.2.2.1.2.2; clear hz hk5))
      have HZ9 := Hid.mk (H0.out _ (by assumption)).2.2.2
      go_wp2_with fail
      go_ret
      exact ⟨rfl, HZ9.out⟩
end Go.Proofs.Ytgdnhlckodhhgaa
