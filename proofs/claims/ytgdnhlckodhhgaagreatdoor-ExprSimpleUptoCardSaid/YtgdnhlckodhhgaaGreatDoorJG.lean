/-
  Whether two expressions are one, by the reference.
-/
import Derived.Test.YtgdnhlckodhhgaaGreatDoorJC
import Derived.Test.YtgdnhlckodhhgaaGreatDoorJA6
import Derived.Test.YtgdnhlckodhhgaaGreatDoorJQ
namespace Go.Proofs.YtgdnhlckodhhgaaGreatDoor
open Go.RowKit
set_option linter.unusedVariables false
set_option linter.unusedSimpArgs false
theorem two_boxesF {w : World} {M : Heap} (hM : Mem w M) (c d : Array Value) (t u : TypeId) : Box ((w.alloc (.cells c t)).alloc (.cells d u)) M w.heap.size c t ∧ Box ((w.alloc (.cells c t)).alloc (.cells d u)) M (w.heap.size + 1) d u := by
  refine ⟨(Box.new hM c t).alloc _, ?_⟩
  have h := Box.new (hM.alloc (.cells c t)) d u
  have e : (w.alloc (.cells c t)).heap.size = w.heap.size + 1 := by simp
  rwa [e] at h
set_option maxRecDepth 100000 in
set_option maxHeartbeats 2000000 in
theorem rSame_calls (n : Nat) : ∀ (a b : E) (A B : Option Addr) (c d : Nat) (w : World) (M : Heap), ExV M a A c → ExV M b B d → Mem w M → a.size ≤ n → n ≤ 1099511627776 →
    Calls Tryz.prog 14 #[.agg #[.int .i64 a.op, .string (bs a.s), .slice A a.l.length c], .agg #[.int .i64 b.op, .string (bs b.s), .slice B b.l.length d]] w fun en w' => en = .returned (.bool (same a b)) ∧ Kp [] w w' := by
  induction n with
  | zero => intro a b A B c d w M ha hb hM hn; have := size_pos a; omega
  | succ n ih =>
    intro a b A B c d w M ha hb hM hn hbig
    have hn1 : sizes a.l ≤ n := by rw [E.size_eq] at hn; omega
    have hll := length_sizes a.l
    have hta := bs_toList a.s
    have htb := bs_toList b.s
    clear hn
    by_cases h1 : a.op = b.op
    · by_cases h2 : a.s = b.s
      · by_cases h3 : a.l.length = b.l.length
        · have H1 := Hid.mk h1
          have H2 := Hid.mk h2
          by_cases hl : a.l.length = 0
          · have HS := Hid.mk (same_step h1 h2 h3 (fun j h => by omega))
            rw [← h1, ← h2, ← h3, hl]
            clear h1 h2 h3 hl hll htb
            go_enter Tryz.func14, Tryz.ntmps14
            go_wp2_with fail
            refine wp_loop_rounds 1 ?_
            rw [rounds_succ]
            go_wp2_with fail
            go_ret
            exact ⟨ret_bool HS.out.symm, ((Kp.refl _ _).alloc _).alloc _⟩
          · obtain ⟨ba, oa, rfl⟩ := ha.place (by omega)
            obtain ⟨bb, ob, rfl⟩ := hb.place (by omega)
            have HA := Hid.mk ha
            have HB := Hid.mk hb
            have H3 := Hid.mk h3
            obtain ⟨hx, hy⟩ := two_boxesF hM #[.int .i64 a.op, .string (bs a.s), .slice (some ⟨ba, oa, none⟩) a.l.length c] #[.int .i64 b.op, .string (bs b.s), .slice (some ⟨bb, ob, none⟩) b.l.length d] 24 24
            rw [← h1, ← h2, ← h3] at hx hy
            rw [← h1, ← h2, ← h3]
            clear ha hb h1 h2 h3
            go_enter Tryz.func14, Tryz.ntmps14
            go_wp2_with fail
            go_loopg [5] a.l.length (fun k v wr => ∃ j : Nat, j ≤ a.l.length ∧ k = a.l.length - j ∧ v = .int .i64 (j : Nat) ∧ (∀ i (h : i < a.l.length) (h' : i < b.l.length), i < j → a.l[i] = b.l[i]) ∧ Mem wr M ∧ Kp [] w wr ∧ Box wr M w.heap.size #[.int .i64 a.op, .string (bs a.s), .slice (some ⟨ba, oa, none⟩) a.l.length c] 24 ∧ Box wr M (w.heap.size + 1) #[.int .i64 a.op, .string (bs a.s), .slice (some ⟨bb, ob, none⟩) a.l.length d] 24)
            case atStart => exact ⟨0, Nat.zero_le _, by simp, rfl, fun i _ _ h => by omega, (hM.alloc _).alloc _, ((Kp.refl _ _).alloc _).alloc _, hx, hy⟩
            case round =>
              obtain ⟨j, hj, hk, rfl, hsame, hM', hK, hx', hy'⟩ := hrel
              have HSM := Hid.mk hsame
              obtain ⟨⟨a0, a1, a2⟩, _, _, _⟩ := hx'.three
              obtain ⟨⟨b0, b1', b2'⟩, _, _, _⟩ := hy'.three
              have hzx := hx'.lt
              have hzy := hy'.lt
              clear hsame
              by_cases hlt : j < a.l.length
              · have hlt2 : j < b.l.length := by have := H3.out; omega
                obtain ⟨A', c', h0, h1, h2, hxa⟩ := HA.out.at_ j hlt
                obtain ⟨B', d', k0, k1, k2, hxb⟩ := HB.out.at_ j hlt2
                have q0 := hM'.cell h0
                have q1 := hM'.cell h1
                have q2 := hM'.cell h2
                have r0 := hM'.cell k0
                have r1 := hM'.cell k1
                have r2 := hM'.cell k2
                have hjs := size_mem (List.getElem_mem hlt)
                have HXA := Hid.mk hxa
                have HXB := Hid.mk hxb
                have HH := Hid.mk (And.intro hM' (And.intro hK (And.intro hx' (And.intro hy' (And.intro h0 (And.intro h1 (And.intro h2 (And.intro k0 (And.intro k1 k2)))))))))
                clear h0 h1 h2 k0 k1 k2 hxa hxb hM' hK hx' hy' hx hy hM
                cases hs : same a.l[j] b.l[j] with
                | true =>
                  have HJ := Hid.mk (same_iff.1 hs)
                  go_upto_region 6 with fail
                  go_region_held3 (fun w' => w'.cell? ⟨w.heap.size, 2, none⟩ = some (.slice (some ⟨ba, oa, none⟩) a.l.length c) ∧ w'.cell? ⟨w.heap.size + 1, 2, none⟩ = some (.slice (some ⟨bb, ob, none⟩) a.l.length d) ∧ w'.cell? ⟨ba, oa + j * 3, none⟩ = some (.int .i64 a.l[j].op) ∧ w'.cell? ⟨ba, oa + j * 3 + 1, none⟩ = some (.string (bs a.l[j].s)) ∧ w'.cell? ⟨ba, oa + j * 3 + 2, none⟩ = some (.slice A' a.l[j].l.length c') ∧ w'.cell? ⟨bb, ob + j * 3, none⟩ = some (.int .i64 b.l[j].op) ∧ w'.cell? ⟨bb, ob + j * 3 + 1, none⟩ = some (.string (bs b.l[j].s)) ∧ w'.cell? ⟨bb, ob + j * 3 + 2, none⟩ = some (.slice B' b.l[j].l.length d')) (go_keep) (first | (go_at_call 14; refine (ih a.l[j] b.l[j] A' B' c' d' _ M HXA.out HXB.out HH.out.1.drew (by omega) (by omega)).mono ?_; rintro e w2 ⟨rfl, hk2⟩; have HZ := Hid.mk (And.intro (HH.out.1.drew.kp hk2 (by simp)) (And.intro (HH.out.2.1.drew.trans hk2) (And.intro ((Box.drew HH.out.2.2.1).same hk2 (by simp)) ((Box.drew HH.out.2.2.2.1).same hk2 (by simp))))); have z0 := HZ.out.2.2.1.three.1.2.2; have z1 := HZ.out.2.2.2.three.1.2.2; have z2 := HZ.out.1.cell HH.out.2.2.2.2.1; have z3 := HZ.out.1.cell HH.out.2.2.2.2.2.1; have z4 := HZ.out.1.cell HH.out.2.2.2.2.2.2.1; have z5 := HZ.out.1.cell HH.out.2.2.2.2.2.2.2.1; have z6 := HZ.out.1.cell HH.out.2.2.2.2.2.2.2.2.1; have z7 := HZ.out.1.cell HH.out.2.2.2.2.2.2.2.2.2; clear hk2))
                  go_wp2_with fail
                  go_roundg (a.l.length - (j + 1))
                  case measure => omega
                  case rel =>
                    refine ⟨j + 1, by omega, rfl, by go_num, fun i h h' hij => ?_, HZ.out.1, HZ.out.2.1, HZ.out.2.2.1, HZ.out.2.2.2⟩
                    rcases Nat.lt_or_ge i j with h4 | h4
                    · exact HSM.out i h h' h4
                    · obtain rfl : i = j := by omega
                      exact HJ.out
                | false =>
                  have HX := Hid.mk (same_at hlt hlt2 hs)
                  go_upto_region 6 with fail
                  go_region_held3 (fun w' => w'.cell? ⟨w.heap.size, 2, none⟩ = some (.slice (some ⟨ba, oa, none⟩) a.l.length c) ∧ w'.cell? ⟨w.heap.size + 1, 2, none⟩ = some (.slice (some ⟨bb, ob, none⟩) a.l.length d) ∧ w'.cell? ⟨ba, oa + j * 3, none⟩ = some (.int .i64 a.l[j].op) ∧ w'.cell? ⟨ba, oa + j * 3 + 1, none⟩ = some (.string (bs a.l[j].s)) ∧ w'.cell? ⟨ba, oa + j * 3 + 2, none⟩ = some (.slice A' a.l[j].l.length c') ∧ w'.cell? ⟨bb, ob + j * 3, none⟩ = some (.int .i64 b.l[j].op) ∧ w'.cell? ⟨bb, ob + j * 3 + 1, none⟩ = some (.string (bs b.l[j].s)) ∧ w'.cell? ⟨bb, ob + j * 3 + 2, none⟩ = some (.slice B' b.l[j].l.length d')) (go_keep) (first | (go_at_call 14; refine (ih a.l[j] b.l[j] A' B' c' d' _ M HXA.out HXB.out HH.out.1.drew (by omega) (by omega)).mono ?_; rintro e w2 ⟨rfl, hk2⟩; have HZ := Hid.mk (And.intro (HH.out.1.drew.kp hk2 (by simp)) (And.intro (HH.out.2.1.drew.trans hk2) (And.intro ((Box.drew HH.out.2.2.1).same hk2 (by simp)) ((Box.drew HH.out.2.2.2.1).same hk2 (by simp))))); have z0 := HZ.out.2.2.1.three.1.2.2; have z1 := HZ.out.2.2.2.three.1.2.2; have z2 := HZ.out.1.cell HH.out.2.2.2.2.1; have z3 := HZ.out.1.cell HH.out.2.2.2.2.2.1; have z4 := HZ.out.1.cell HH.out.2.2.2.2.2.2.1; have z5 := HZ.out.1.cell HH.out.2.2.2.2.2.2.2.1; have z6 := HZ.out.1.cell HH.out.2.2.2.2.2.2.2.2.1; have z7 := HZ.out.1.cell HH.out.2.2.2.2.2.2.2.2.2; clear hk2))
                  go_wp2_with fail
                  go_ret
                  exact ⟨ret_bool HX.out.symm, HZ.out.2.1⟩
              · obtain rfl : j = a.l.length := by omega
                have hlt' : ¬ ((a.l.length : Int) < (a.l.length : Int)) := by omega
                have HX := Hid.mk (same_step H1.out H2.out H3.out (fun i h h' => HSM.out i h h' h))
                go_wp2_with fail
                go_ret
                exact ⟨ret_bool HX.out.symm, hK⟩
        · have b3 : ((a.l.length : Int) != (b.l.length : Int)) = true := by simp; omega
          have HS := Hid.mk (same_no (a := a) (b := b) (fun e => h3 (by rw [e])))
          rw [← h1, ← h2]
          clear h1 h2 h3 htb
          go_enter Tryz.func14, Tryz.ntmps14
          go_wp2_with fail
          go_ret
          exact ⟨ret_bool HS.out.symm, ((Kp.refl _ _).alloc _).alloc _⟩
      · have b2 : (a.s == b.s) = false := by simpa using h2
        have HS := Hid.mk (same_no (a := a) (b := b) (fun e => h2 (by rw [e])))
        rw [← h1]
        clear h1 h2
        go_enter Tryz.func14, Tryz.ntmps14
        go_wp2_with fail
        go_ret
        exact ⟨ret_bool HS.out.symm, ((Kp.refl _ _).alloc _).alloc _⟩
    · have b1 : (a.op != b.op) = true := by simpa using h1
      have HS := Hid.mk (same_no (a := a) (b := b) (fun e => h1 (by rw [e])))
      clear h1
      go_enter Tryz.func14, Tryz.ntmps14
      go_wp2_with fail
      go_ret
      exact ⟨ret_bool HS.out.symm, ((Kp.refl _ _).alloc _).alloc _⟩
end Go.Proofs.YtgdnhlckodhhgaaGreatDoor
