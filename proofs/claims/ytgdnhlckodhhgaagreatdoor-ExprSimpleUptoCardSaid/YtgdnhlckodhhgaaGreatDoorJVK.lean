/-
  The reference's asker: find (what asks once, or of nothing).
-/
import Derived.Test.YtgdnhlckodhhgaaGreatDoorJVJ
namespace Go.Proofs.YtgdnhlckodhhgaaGreatDoor
open Go.RowKit
set_option linter.unusedVariables false
set_option linter.unusedSimpArgs false
theorem nth_rev {l : List E} {j : Nat} (h : j < l.length) : nth (revs l) j = rev l[j] := by
  rw [revs_map]
  unfold nth
  rw [List.getD_eq_getElem?_getD, List.getElem?_map, List.getElem?_eq_getElem h]; rfl
theorem rev_eq (e : E) (u : List Bs) : rev e u = revOp e.op e.s (revs e.l) u := by cases e; simp [rev, E.op, E.s, E.l]
theorem find_kids {ga gm gi n cap L k : Nat} {V : Bs → Bool} {e : E} (hkids : ∀ j, (h : j < e.l.length) → RH ga gm gi n cap V L (k + 1 + sizes (e.l.take j)) e.l[j]) {M : Heap} {Ak : Option Addr} {ck : Nat} (hrn : RN M gi n k e) (hcell : cellM M ⟨gi, k * 3 + 2, none⟩ = some (.slice Ak e.l.length ck)) :
    ∃ kj : Nat → Nat, (∀ j, (h : j < e.l.length) → RH ga gm gi n cap V L (kj j) e.l[j]) ∧ (∀ j, (h : j < e.l.length) → RN M gi n (kj j) e.l[j]) ∧ ∀ j, (h : j < e.l.length) → ∃ bb o, Ak = some ⟨bb, o, none⟩ ∧ cellM M ⟨bb, o + j, none⟩ = some (.int .i64 (kj j : Nat)) := by
  obtain ⟨_, A, c, _, _, h2, hrow, hr⟩ := hrn.kids
  rw [hcell] at h2
  simp only [Option.some.injEq, Value.slice.injEq] at h2
  obtain ⟨rfl, _, _⟩ := h2
  exact ⟨fun j => k + 1 + sizes (e.l.take j), hkids, hr, hrow⟩
theorem row_place {n : Nat} {M : Heap} {A : Option Addr} {kj : Nat → Nat} (hn : 0 < n) (h : ∀ j, (h : j < n) → ∃ bb o, A = some ⟨bb, o, none⟩ ∧ cellM M ⟨bb, o + j, none⟩ = some (.int .i64 (kj j : Nat))) : ∃ bb o, A = some ⟨bb, o, none⟩ ∧ ∀ j, j < n → cellM M ⟨bb, o + j, none⟩ = some (.int .i64 (kj j : Nat)) := by
  obtain ⟨bb, o, rfl, _⟩ := h 0 hn
  refine ⟨bb, o, rfl, fun j hj => ?_⟩
  obtain ⟨b', o', e, hc⟩ := h j hj
  injection e with e
  injection e with e1 e2
  subst e1 e2
  exact hc
set_option maxRecDepth 100000 in
set_option maxHeartbeats 2000000 in
theorem rfind_0 {ga gm gi n cap L k : Nat} {V : Bs → Bool} {e : E} (hL : L ≤ 60) (hop : e.op = 0) (hlen : e.l.length = 0) (hl : e.l.length ≤ 1000000) (hkids : ∀ j, (h : j < e.l.length) → RH ga gm gi n cap V L (k + 1 + sizes (e.l.take j)) e.l[j]) : RF ga gm gi n cap V L k e := by
  intro M u A Ak c ck w hrn hcell hws hc hok hM hA
  obtain ⟨hga, hgm⟩ := hA.lt
  obtain ⟨kj, hx, hr, hrow⟩ := find_kids hkids hrn hcell
  have hul : u.length ≤ 60 := Nat.le_trans hok.1 (by omega)
  have HRV := Hid.mk (rev_eq e u)
  rw [hop] at HRV ⊢
  rw [hlen]
  have hM1 := hM.alloc (.cells #[.int .i64 0, .string (bs e.s), .slice Ak 0 ck] 130)
  have hA1 := hA.kp ((Kp.refl [] w).alloc (.cells #[.int .i64 0, .string (bs e.s), .slice Ak 0 ck] 130)) (by simp) (by simp)
  have hb1 := Box.new hM #[.int .i64 0, .string (bs e.s), .slice Ak 0 ck] 130
  have hk1 : Kp [gm] w (w.alloc (.cells #[.int .i64 0, .string (bs e.s), .slice Ak 0 ck] 130)) := (Kp.refl [gm] w).alloc _
  have HH := Hid.mk (And.intro hM1 (And.intro hA1 (And.intro hk1 hb1)))
  by_cases h1 : u.length = 1
  · obtain ⟨x, rfl⟩ : ∃ x, u = [x] := by
      match u, h1 with
      | [x], _ => exact ⟨x, rfl⟩
    have hq : ∃ b o, A = some ⟨b, o, none⟩ ∧ cellM M ⟨b, o, none⟩ = some (.string (bs x)) := by
      rcases hws with ⟨_, h⟩ | ⟨b, o, rfl, h⟩
      · cases h
      · exact ⟨b, o, rfl, h 0 (by simp)⟩
    obtain ⟨b, o, rfl, hq⟩ := hq
    have q := hM1.cell hq
    have hz1 := bs_toList e.s
    have hz2 := bs_toList x
    have HX : Hid ((x == e.s) = rev e [x]) := Hid.mk (by rw [HRV.out]; show _ = ([x] == [e.s]); simp)
    clear hkids hrn hcell hws hc hok hM hA hx hr hrow hM1 hA1 hb1 hk1 hop hlen hl hq h1
    rw [List.length_singleton]
    go_enter Tryz.func91, Tryz.ntmps91
    go_wp2_with fail
    go_quiet (fail)
    go_wp2_with fail
    go_ret
    exact ⟨ret_bool HX.out, HH.out.1.drewN _, HH.out.2.1.kp ((Kp.refl [] _).drewN _) (by simp) (by simp), HH.out.2.2.1.drewN _⟩
  · have hne : ((u.length : Int) == 1) = false := by simp; omega
    have HX : Hid (false = rev e u) := Hid.mk (by
      rw [HRV.out]
      show _ = (u == [e.s])
      symm
      rw [beq_eq_false_iff_ne]
      rintro rfl
      exact h1 rfl)
    clear hkids hrn hcell hws hc hok hM hA hx hr hrow hM1 hA1 hb1 hk1 hop hlen hl h1
    go_enter Tryz.func91, Tryz.ntmps91
    go_wp2_with fail
    go_quiet (fail)
    go_wp2_with fail
    go_ret
    exact ⟨ret_bool HX.out, HH.out.1.drewN _, HH.out.2.1.kp ((Kp.refl [] _).drewN _) (by simp) (by simp), HH.out.2.2.1.drewN _⟩
set_option maxRecDepth 100000 in
set_option maxHeartbeats 2000000 in
theorem rfind_1 {ga gm gi n cap L k : Nat} {V : Bs → Bool} {e : E} (hL : L ≤ 60) (hop : e.op = 1) (hlen : e.l.length = 0) (hl : e.l.length ≤ 1000000) (hkids : ∀ j, (h : j < e.l.length) → RH ga gm gi n cap V L (k + 1 + sizes (e.l.take j)) e.l[j]) : RF ga gm gi n cap V L k e := by
  intro M u A Ak c ck w hrn hcell hws hc hok hM hA
  obtain ⟨hga, hgm⟩ := hA.lt
  obtain ⟨kj, hx, hr, hrow⟩ := find_kids hkids hrn hcell
  have hul : u.length ≤ 60 := Nat.le_trans hok.1 (by omega)
  have HRV := Hid.mk (rev_eq e u)
  rw [hop] at HRV ⊢
  rw [hlen]
  have hM1 := hM.alloc (.cells #[.int .i64 1, .string (bs e.s), .slice Ak 0 ck] 130)
  have hA1 := hA.kp ((Kp.refl [] w).alloc (.cells #[.int .i64 1, .string (bs e.s), .slice Ak 0 ck] 130)) (by simp) (by simp)
  have hb1 := Box.new hM #[.int .i64 1, .string (bs e.s), .slice Ak 0 ck] 130
  have hk1 : Kp [gm] w (w.alloc (.cells #[.int .i64 1, .string (bs e.s), .slice Ak 0 ck] 130)) := (Kp.refl [gm] w).alloc _
  have HH := Hid.mk (And.intro hM1 (And.intro hA1 (And.intro hk1 hb1)))
  have HX : Hid (((u.length : Int) == 1) = rev e u) := Hid.mk (by rw [HRV.out]; show _ = (u.length == 1); rw [Bool.eq_iff_iff]; simp; omega)
  clear hkids hrn hcell hws hc hok hM hA hx hr hrow hM1 hA1 hb1 hk1 hop hlen hl
  go_enter Tryz.func91, Tryz.ntmps91
  go_wp2_with fail
  go_ret
  exact ⟨ret_bool HX.out, HH.out.1, HH.out.2.1, HH.out.2.2.1⟩
set_option maxRecDepth 100000 in
set_option maxHeartbeats 2000000 in
theorem rfind_2 {ga gm gi n cap L k : Nat} {V : Bs → Bool} {e : E} (hL : L ≤ 60) (hop : e.op = 2) (hlen : e.l.length = 0) (hl : e.l.length ≤ 1000000) (hkids : ∀ j, (h : j < e.l.length) → RH ga gm gi n cap V L (k + 1 + sizes (e.l.take j)) e.l[j]) : RF ga gm gi n cap V L k e := by
  intro M u A Ak c ck w hrn hcell hws hc hok hM hA
  obtain ⟨hga, hgm⟩ := hA.lt
  obtain ⟨kj, hx, hr, hrow⟩ := find_kids hkids hrn hcell
  have hul : u.length ≤ 60 := Nat.le_trans hok.1 (by omega)
  have HRV := Hid.mk (rev_eq e u)
  rw [hop] at HRV ⊢
  rw [hlen]
  have hM1 := hM.alloc (.cells #[.int .i64 2, .string (bs e.s), .slice Ak 0 ck] 130)
  have hA1 := hA.kp ((Kp.refl [] w).alloc (.cells #[.int .i64 2, .string (bs e.s), .slice Ak 0 ck] 130)) (by simp) (by simp)
  have hb1 := Box.new hM #[.int .i64 2, .string (bs e.s), .slice Ak 0 ck] 130
  have hk1 : Kp [gm] w (w.alloc (.cells #[.int .i64 2, .string (bs e.s), .slice Ak 0 ck] 130)) := (Kp.refl [gm] w).alloc _
  have HH := Hid.mk (And.intro hM1 (And.intro hA1 (And.intro hk1 hb1)))
  have HX : Hid (((u.length : Int) == 0) = rev e u) := Hid.mk (by rw [HRV.out]; show _ = (u == []); rw [Bool.eq_iff_iff]; simp)
  clear hkids hrn hcell hws hc hok hM hA hx hr hrow hM1 hA1 hb1 hk1 hop hlen hl
  go_enter Tryz.func91, Tryz.ntmps91
  go_wp2_with fail
  go_ret
  exact ⟨ret_bool HX.out, HH.out.1, HH.out.2.1, HH.out.2.2.1⟩
set_option maxRecDepth 100000 in
set_option maxHeartbeats 2000000 in
theorem rfind_3 {ga gm gi n cap L k : Nat} {V : Bs → Bool} {e : E} (hL : L ≤ 60) (hop : e.op = 3) (hlen : e.l.length = 0) (hl : e.l.length ≤ 1000000) (hkids : ∀ j, (h : j < e.l.length) → RH ga gm gi n cap V L (k + 1 + sizes (e.l.take j)) e.l[j]) : RF ga gm gi n cap V L k e := by
  intro M u A Ak c ck w hrn hcell hws hc hok hM hA
  obtain ⟨hga, hgm⟩ := hA.lt
  obtain ⟨kj, hx, hr, hrow⟩ := find_kids hkids hrn hcell
  have hul : u.length ≤ 60 := Nat.le_trans hok.1 (by omega)
  have HRV := Hid.mk (rev_eq e u)
  rw [hop] at HRV ⊢
  rw [hlen]
  have hM1 := hM.alloc (.cells #[.int .i64 3, .string (bs e.s), .slice Ak 0 ck] 130)
  have hA1 := hA.kp ((Kp.refl [] w).alloc (.cells #[.int .i64 3, .string (bs e.s), .slice Ak 0 ck] 130)) (by simp) (by simp)
  have hb1 := Box.new hM #[.int .i64 3, .string (bs e.s), .slice Ak 0 ck] 130
  have hk1 : Kp [gm] w (w.alloc (.cells #[.int .i64 3, .string (bs e.s), .slice Ak 0 ck] 130)) := (Kp.refl [gm] w).alloc _
  have HH := Hid.mk (And.intro hM1 (And.intro hA1 (And.intro hk1 hb1)))
  have HX : Hid (false = rev e u) := Hid.mk (by rw [HRV.out]; rfl)
  clear hkids hrn hcell hws hc hok hM hA hx hr hrow hM1 hA1 hb1 hk1 hop hlen hl
  go_enter Tryz.func91, Tryz.ntmps91
  go_wp2_with fail
  go_ret
  exact ⟨ret_bool HX.out, HH.out.1, HH.out.2.1, HH.out.2.2.1⟩
set_option maxRecDepth 100000 in
set_option maxHeartbeats 2000000 in
theorem rfind_4 {ga gm gi n cap L k : Nat} {V : Bs → Bool} {e : E} (hL : L ≤ 60) (hop : e.op = 4) (hlen : True) (hl : e.l.length ≤ 1000000) (hkids : ∀ j, (h : j < e.l.length) → RH ga gm gi n cap V L (k + 1 + sizes (e.l.take j)) e.l[j]) : RF ga gm gi n cap V L k e := by
  intro M u A Ak c ck w hrn hcell hws hc hok hM hA
  obtain ⟨hga, hgm⟩ := hA.lt
  obtain ⟨kj, hx, hr, hrow⟩ := find_kids hkids hrn hcell
  have hul : u.length ≤ 60 := Nat.le_trans hok.1 (by omega)
  have HRV := Hid.mk (rev_eq e u)
  rw [hop] at HRV ⊢
  have hM1 := hM.alloc (.cells #[.int .i64 4, .string (bs e.s), .slice Ak e.l.length ck] 130)
  have hA1 := hA.kp ((Kp.refl [] w).alloc (.cells #[.int .i64 4, .string (bs e.s), .slice Ak e.l.length ck] 130)) (by simp) (by simp)
  have hb1 := Box.new hM #[.int .i64 4, .string (bs e.s), .slice Ak e.l.length ck] 130
  have hk1 : Kp [gm] w (w.alloc (.cells #[.int .i64 4, .string (bs e.s), .slice Ak e.l.length ck] 130)) := (Kp.refl [gm] w).alloc _
  have HH := Hid.mk (And.intro hM1 (And.intro hA1 (And.intro hk1 hb1)))
  have HX : Hid (chainB (revs e.l) u = rev e u) := Hid.mk (by rw [HRV.out]; rfl)
  have HC := Hid.mk (rAchain_calls (ck := ck) (by omega) M hrow hx hr hl u A c _ hws hc hok hM1 hA1)
  clear hkids hrn hcell hws hc hok hM hA hx hr hrow hM1 hA1 hb1 hk1 hop hlen hl
  go_enter Tryz.func91, Tryz.ntmps91
  go_wp2_with fail
  (with_reducible refine HC.out.mono ?_)
  rintro en w5 ⟨rfl, hM5, hA5, hk5⟩
  have HZ := Hid.mk (And.intro hM5 (And.intro hA5 (HH.out.2.2.1.trans hk5)))
  clear hM5 hA5 hk5
  go_wp2_with fail
  go_ret
  exact ⟨ret_bool HX.out, HZ.out⟩
set_option maxRecDepth 100000 in
set_option maxHeartbeats 2000000 in
theorem rfind_8 {ga gm gi n cap L k : Nat} {V : Bs → Bool} {e : E} (hL : L ≤ 60) (hop : e.op = 8) (hlen : e.l.length = 1) (hl : e.l.length ≤ 1000000) (hkids : ∀ j, (h : j < e.l.length) → RH ga gm gi n cap V L (k + 1 + sizes (e.l.take j)) e.l[j]) : RF ga gm gi n cap V L k e := by
  intro M u A Ak c ck w hrn hcell hws hc hok hM hA
  obtain ⟨hga, hgm⟩ := hA.lt
  obtain ⟨kj, hx, hr, hrow⟩ := find_kids hkids hrn hcell
  have hul : u.length ≤ 60 := Nat.le_trans hok.1 (by omega)
  have HRV := Hid.mk (rev_eq e u)
  rw [hop] at HRV ⊢
  obtain ⟨bb, o, rfl, hcs⟩ := row_place (by omega) hrow
  have P0 : 0 < e.l.length := by omega
  have c0 := hcs 0 P0
  rw [Nat.add_zero] at c0
  rw [hlen]
  have hM1 := hM.alloc (.cells #[.int .i64 8, .string (bs e.s), .slice (some ⟨bb, o, none⟩) 1 ck] 130)
  have hA1 := hA.kp ((Kp.refl [] w).alloc (.cells #[.int .i64 8, .string (bs e.s), .slice (some ⟨bb, o, none⟩) 1 ck] 130)) (by simp) (by simp)
  have hb1 := Box.new hM #[.int .i64 8, .string (bs e.s), .slice (some ⟨bb, o, none⟩) 1 ck] 130
  have hk1 : Kp [gm] w (w.alloc (.cells #[.int .i64 8, .string (bs e.s), .slice (some ⟨bb, o, none⟩) 1 ck] 130)) := (Kp.refl [gm] w).alloc _
  have HH := Hid.mk (And.intro hM1 (And.intro hA1 (And.intro hk1 hb1)))
  have HX : Hid (starB (rev (e.l[0]'P0)) u = rev e u) := Hid.mk (by rw [HRV.out]; show _ = starB (nth (revs e.l) 0) u; rw [nth_rev P0])
  have HC := Hid.mk (rArow_calls hL (hx 0 P0) M u A c _ (hr 0 P0) hws hc hok hM1 hA1)
  have q0 := hM1.cell c0
  clear hkids hrn hcell hws hc hok hM hA hx hr hrow hM1 hA1 hb1 hk1 hop hlen hl hcs c0
  go_enter Tryz.func91, Tryz.ntmps91
  go_wp2_with fail
  (with_reducible refine HC.out.mono ?_)
  rintro en w5 ⟨rfl, hM5, hA5, hk5⟩
  have HZ := Hid.mk (And.intro hM5 (And.intro hA5 (HH.out.2.2.1.trans hk5)))
  clear hM5 hA5 hk5
  go_wp2_with fail
  go_ret
  exact ⟨ret_bool HX.out, HZ.out⟩
set_option maxRecDepth 100000 in
set_option maxHeartbeats 2000000 in
theorem rfind_11 {ga gm gi n cap L k : Nat} {V : Bs → Bool} {e : E} (hL : L ≤ 60) (hop : e.op = 11) (hlen : e.l.length = 1) (hl : e.l.length ≤ 1000000) (hkids : ∀ j, (h : j < e.l.length) → RH ga gm gi n cap V L (k + 1 + sizes (e.l.take j)) e.l[j]) : RF ga gm gi n cap V L k e := by
  intro M u A Ak c ck w hrn hcell hws hc hok hM hA
  obtain ⟨hga, hgm⟩ := hA.lt
  obtain ⟨kj, hx, hr, hrow⟩ := find_kids hkids hrn hcell
  have hul : u.length ≤ 60 := Nat.le_trans hok.1 (by omega)
  have HRV := Hid.mk (rev_eq e u)
  rw [hop] at HRV ⊢
  obtain ⟨bb, o, rfl, hcs⟩ := row_place (by omega) hrow
  have P0 : 0 < e.l.length := by omega
  have c0 := hcs 0 P0
  rw [Nat.add_zero] at c0
  rw [hlen]
  have hM1 := hM.alloc (.cells #[.int .i64 11, .string (bs e.s), .slice (some ⟨bb, o, none⟩) 1 ck] 130)
  have hA1 := hA.kp ((Kp.refl [] w).alloc (.cells #[.int .i64 11, .string (bs e.s), .slice (some ⟨bb, o, none⟩) 1 ck] 130)) (by simp) (by simp)
  have hb1 := Box.new hM #[.int .i64 11, .string (bs e.s), .slice (some ⟨bb, o, none⟩) 1 ck] 130
  have hk1 : Kp [gm] w (w.alloc (.cells #[.int .i64 11, .string (bs e.s), .slice (some ⟨bb, o, none⟩) 1 ck] 130)) := (Kp.refl [gm] w).alloc _
  have HH := Hid.mk (And.intro hM1 (And.intro hA1 (And.intro hk1 hb1)))
  have HX : Hid ((!(rev (e.l[0]'P0) u)) = rev e u) := Hid.mk (by rw [HRV.out]; show _ = (!((nth (revs e.l) 0) u)); rw [nth_rev P0])
  have HC := Hid.mk (hx 0 P0 M u A c _ (hr 0 P0) hws hc hok hM1 hA1)
  have q0 := hM1.cell c0
  clear hkids hrn hcell hws hc hok hM hA hx hr hrow hM1 hA1 hb1 hk1 hop hlen hl hcs c0
  go_enter Tryz.func91, Tryz.ntmps91
  go_wp2_with fail
  (with_reducible refine HC.out.mono ?_)
  rintro en w5 ⟨rfl, hM5, hA5, hk5⟩
  have HZ := Hid.mk (And.intro hM5 (And.intro hA5 (HH.out.2.2.1.trans hk5)))
  clear hM5 hA5 hk5
  go_wp2_with fail
  go_ret
  exact ⟨ret_bool HX.out, HZ.out⟩
set_option maxRecDepth 100000 in
set_option maxHeartbeats 2000000 in
theorem rfind_12 {ga gm gi n cap L k : Nat} {V : Bs → Bool} {e : E} (hL : L ≤ 60) (hop : e.op = 12) (hlen : e.l.length = 1) (hl : e.l.length ≤ 1000000) (hkids : ∀ j, (h : j < e.l.length) → RH ga gm gi n cap V L (k + 1 + sizes (e.l.take j)) e.l[j]) : RF ga gm gi n cap V L k e := by
  intro M u A Ak c ck w hrn hcell hws hc hok hM hA
  obtain ⟨hga, hgm⟩ := hA.lt
  obtain ⟨kj, hx, hr, hrow⟩ := find_kids hkids hrn hcell
  have hul : u.length ≤ 60 := Nat.le_trans hok.1 (by omega)
  have HRV := Hid.mk (rev_eq e u)
  rw [hop] at HRV ⊢
  obtain ⟨bb, o, rfl, hcs⟩ := row_place (by omega) hrow
  have P0 : 0 < e.l.length := by omega
  have c0 := hcs 0 P0
  rw [Nat.add_zero] at c0
  rw [hlen]
  have hM1 := hM.alloc (.cells #[.int .i64 12, .string (bs e.s), .slice (some ⟨bb, o, none⟩) 1 ck] 130)
  have hA1 := hA.kp ((Kp.refl [] w).alloc (.cells #[.int .i64 12, .string (bs e.s), .slice (some ⟨bb, o, none⟩) 1 ck] 130)) (by simp) (by simp)
  have hb1 := Box.new hM #[.int .i64 12, .string (bs e.s), .slice (some ⟨bb, o, none⟩) 1 ck] 130
  have hk1 : Kp [gm] w (w.alloc (.cells #[.int .i64 12, .string (bs e.s), .slice (some ⟨bb, o, none⟩) 1 ck] 130)) := (Kp.refl [gm] w).alloc _
  have HH := Hid.mk (And.intro hM1 (And.intro hA1 (And.intro hk1 hb1)))
  have HX : Hid (withinB (rev (e.l[0]'P0)) u = rev e u) := Hid.mk (by rw [HRV.out]; show _ = withinB (nth (revs e.l) 0) u; rw [nth_rev P0])
  have HC := Hid.mk (rAwithin_calls hL (hx 0 P0) M u A c _ (hr 0 P0) hws hc hok hM1 hA1)
  have q0 := hM1.cell c0
  clear hkids hrn hcell hws hc hok hM hA hx hr hrow hM1 hA1 hb1 hk1 hop hlen hl hcs c0
  go_enter Tryz.func91, Tryz.ntmps91
  go_wp2_with fail
  (with_reducible refine HC.out.mono ?_)
  rintro en w5 ⟨rfl, hM5, hA5, hk5⟩
  have HZ := Hid.mk (And.intro hM5 (And.intro hA5 (HH.out.2.2.1.trans hk5)))
  clear hM5 hA5 hk5
  go_wp2_with fail
  go_ret
  exact ⟨ret_bool HX.out, HZ.out⟩
set_option maxRecDepth 100000 in
set_option maxHeartbeats 2000000 in
theorem rfind_13 {ga gm gi n cap L k : Nat} {V : Bs → Bool} {e : E} (hL : L ≤ 10) (hop : e.op = 13) (hlen : e.l.length = 2) (hl : e.l.length ≤ 1000000) (hkids : ∀ j, (h : j < e.l.length) → RH ga gm gi n cap V L (k + 1 + sizes (e.l.take j)) e.l[j]) : RF ga gm gi n cap V L k e := by
  intro M u A Ak c ck w hrn hcell hws hc hok hM hA
  obtain ⟨hga, hgm⟩ := hA.lt
  obtain ⟨kj, hx, hr, hrow⟩ := find_kids hkids hrn hcell
  have hul : u.length ≤ 60 := Nat.le_trans hok.1 (by omega)
  have HRV := Hid.mk (rev_eq e u)
  rw [hop] at HRV ⊢
  obtain ⟨bb, o, rfl, hcs⟩ := row_place (by omega) hrow
  have P0 : 0 < e.l.length := by omega
  have c0 := hcs 0 P0
  have P1 : 1 < e.l.length := by omega
  have c1 := hcs 1 P1
  rw [Nat.add_zero] at c0
  rw [hlen]
  have hM1 := hM.alloc (.cells #[.int .i64 13, .string (bs e.s), .slice (some ⟨bb, o, none⟩) 2 ck] 130)
  have hA1 := hA.kp ((Kp.refl [] w).alloc (.cells #[.int .i64 13, .string (bs e.s), .slice (some ⟨bb, o, none⟩) 2 ck] 130)) (by simp) (by simp)
  have hb1 := Box.new hM #[.int .i64 13, .string (bs e.s), .slice (some ⟨bb, o, none⟩) 2 ck] 130
  have hk1 : Kp [gm] w (w.alloc (.cells #[.int .i64 13, .string (bs e.s), .slice (some ⟨bb, o, none⟩) 2 ck] 130)) := (Kp.refl [gm] w).alloc _
  have HH := Hid.mk (And.intro hM1 (And.intro hA1 (And.intro hk1 hb1)))
  have HX : Hid (ignR (rev (e.l[0]'P0)) (rev (e.l[1]'P1)) u = rev e u) := Hid.mk (by rw [HRV.out]; show _ = ignR (nth (revs e.l) 0) (nth (revs e.l) 1) u; rw [nth_rev P0]; rw [nth_rev P1])
  have HC := Hid.mk (rAignored_calls hL (hx 0 P0) (hx 1 P1) M u A bb o c ck _ (hr 0 P0) (hr 1 P1) c0 c1 hws hc hok hM1 hA1)
  clear hkids hrn hcell hws hc hok hM hA hx hr hrow hM1 hA1 hb1 hk1 hop hlen hl hcs c0 c1
  go_enter Tryz.func91, Tryz.ntmps91
  go_wp2_with fail
  (with_reducible refine HC.out.mono ?_)
  rintro en w5 ⟨rfl, hM5, hA5, hk5⟩
  have HZ := Hid.mk (And.intro hM5 (And.intro hA5 (HH.out.2.2.1.trans hk5)))
  clear hM5 hA5 hk5
  go_wp2_with fail
  go_ret
  exact ⟨ret_bool HX.out, HZ.out⟩
set_option maxRecDepth 100000 in
set_option maxHeartbeats 2000000 in
theorem rfind_15 {ga gm gi n cap L k : Nat} {V : Bs → Bool} {e : E} (hL : L ≤ 10) (hop : e.op = 15) (hlen : e.l.length = 2) (hl : e.l.length ≤ 1000000) (hkids : ∀ j, (h : j < e.l.length) → RH ga gm gi n cap V L (k + 1 + sizes (e.l.take j)) e.l[j]) : RF ga gm gi n cap V L k e := by
  intro M u A Ak c ck w hrn hcell hws hc hok hM hA
  obtain ⟨hga, hgm⟩ := hA.lt
  obtain ⟨kj, hx, hr, hrow⟩ := find_kids hkids hrn hcell
  have hul : u.length ≤ 60 := Nat.le_trans hok.1 (by omega)
  have HRV := Hid.mk (rev_eq e u)
  rw [hop] at HRV ⊢
  obtain ⟨bb, o, rfl, hcs⟩ := row_place (by omega) hrow
  have P0 : 0 < e.l.length := by omega
  have c0 := hcs 0 P0
  have P1 : 1 < e.l.length := by omega
  have c1 := hcs 1 P1
  rw [Nat.add_zero] at c0
  rw [hlen]
  have hM1 := hM.alloc (.cells #[.int .i64 15, .string (bs e.s), .slice (some ⟨bb, o, none⟩) 2 ck] 130)
  have hA1 := hA.kp ((Kp.refl [] w).alloc (.cells #[.int .i64 15, .string (bs e.s), .slice (some ⟨bb, o, none⟩) 2 ck] 130)) (by simp) (by simp)
  have hb1 := Box.new hM #[.int .i64 15, .string (bs e.s), .slice (some ⟨bb, o, none⟩) 2 ck] 130
  have hk1 : Kp [gm] w (w.alloc (.cells #[.int .i64 15, .string (bs e.s), .slice (some ⟨bb, o, none⟩) 2 ck] 130)) := (Kp.refl [gm] w).alloc _
  have HH := Hid.mk (And.intro hM1 (And.intro hA1 (And.intro hk1 hb1)))
  have HX : Hid (shufR (rev (e.l[0]'P0)) (rev (e.l[1]'P1)) u = rev e u) := Hid.mk (by rw [HRV.out]; show _ = shufR (nth (revs e.l) 0) (nth (revs e.l) 1) u; rw [nth_rev P0]; rw [nth_rev P1])
  have HC := Hid.mk (rAshuffled_calls hL (hx 0 P0) (hx 1 P1) M u A bb o c ck _ (hr 0 P0) (hr 1 P1) c0 c1 hws hc hok hM1 hA1)
  clear hkids hrn hcell hws hc hok hM hA hx hr hrow hM1 hA1 hb1 hk1 hop hlen hl hcs c0 c1
  go_enter Tryz.func91, Tryz.ntmps91
  go_wp2_with fail
  (with_reducible refine HC.out.mono ?_)
  rintro en w5 ⟨rfl, hM5, hA5, hk5⟩
  have HZ := Hid.mk (And.intro hM5 (And.intro hA5 (HH.out.2.2.1.trans hk5)))
  clear hM5 hA5 hk5
  go_wp2_with fail
  go_ret
  exact ⟨ret_bool HX.out, HZ.out⟩
set_option maxRecDepth 100000 in
set_option maxHeartbeats 2000000 in
theorem rfind_14 {ga gm gi n cap L k : Nat} {V : Bs → Bool} {e : E} (hL : L ≤ 60) (hop : e.op = 14) (hlen : e.l.length = 3) (hl : e.l.length ≤ 1000000) (hkids : ∀ j, (h : j < e.l.length) → RH ga gm gi n cap V L (k + 1 + sizes (e.l.take j)) e.l[j]) : RF ga gm gi n cap V L k e := by
  intro M u A Ak c ck w hrn hcell hws hc hok hM hA
  obtain ⟨hga, hgm⟩ := hA.lt
  obtain ⟨kj, hx, hr, hrow⟩ := find_kids hkids hrn hcell
  have hul : u.length ≤ 60 := Nat.le_trans hok.1 (by omega)
  have HRV := Hid.mk (rev_eq e u)
  rw [hop] at HRV ⊢
  obtain ⟨bb, o, rfl, hcs⟩ := row_place (by omega) hrow
  have P0 : 0 < e.l.length := by omega
  have c0 := hcs 0 P0
  have P1 : 1 < e.l.length := by omega
  have c1 := hcs 1 P1
  have P2 : 2 < e.l.length := by omega
  have c2 := hcs 2 P2
  rw [Nat.add_zero] at c0
  rw [hlen]
  have hM1 := hM.alloc (.cells #[.int .i64 14, .string (bs e.s), .slice (some ⟨bb, o, none⟩) 3 ck] 130)
  have hA1 := hA.kp ((Kp.refl [] w).alloc (.cells #[.int .i64 14, .string (bs e.s), .slice (some ⟨bb, o, none⟩) 3 ck] 130)) (by simp) (by simp)
  have hb1 := Box.new hM #[.int .i64 14, .string (bs e.s), .slice (some ⟨bb, o, none⟩) 3 ck] 130
  have hk1 : Kp [gm] w (w.alloc (.cells #[.int .i64 14, .string (bs e.s), .slice (some ⟨bb, o, none⟩) 3 ck] 130)) := (Kp.refl [gm] w).alloc _
  have HH := Hid.mk (And.intro hM1 (And.intro hA1 (And.intro hk1 hb1)))
  have HX : Hid (onlyB (rev (e.l[0]'P0)) (rev (e.l[1]'P1)) (rev (e.l[2]'P2)) u = rev e u) := Hid.mk (by rw [HRV.out]; show _ = onlyB (nth (revs e.l) 0) (nth (revs e.l) 1) (nth (revs e.l) 2) u; rw [nth_rev P0]; rw [nth_rev P1]; rw [nth_rev P2])
  have HC := Hid.mk (rAonly_calls hL (hx 0 P0) (hx 1 P1) (hx 2 P2) M u A bb o c ck _ (hr 0 P0) (hr 1 P1) (hr 2 P2) c0 c1 c2 hws hc hok hM1 hA1)
  clear hkids hrn hcell hws hc hok hM hA hx hr hrow hM1 hA1 hb1 hk1 hop hlen hl hcs c0 c1 c2
  go_enter Tryz.func91, Tryz.ntmps91
  go_wp2_with fail
  (with_reducible refine HC.out.mono ?_)
  rintro en w5 ⟨rfl, hM5, hA5, hk5⟩
  have HZ := Hid.mk (And.intro hM5 (And.intro hA5 (HH.out.2.2.1.trans hk5)))
  clear hM5 hA5 hk5
  go_wp2_with fail
  go_ret
  exact ⟨ret_bool HX.out, HZ.out⟩
end Go.Proofs.YtgdnhlckodhhgaaGreatDoor

/-
  The reference's asker: find (what asks twice).
-/
namespace Go.Proofs.YtgdnhlckodhhgaaGreatDoor
open Go.RowKit
set_option linter.unusedVariables false
set_option linter.unusedSimpArgs false
set_option maxRecDepth 100000 in
set_option maxHeartbeats 2000000 in
theorem rfind_7 {ga gm gi n cap L k : Nat} {V : Bs → Bool} {e : E} (hL : L ≤ 60) (hop : e.op = 7) (hlen : e.l.length = 2) (hl : e.l.length ≤ 1000000) (hkids : ∀ j, (h : j < e.l.length) → RH ga gm gi n cap V L (k + 1 + sizes (e.l.take j)) e.l[j]) : RF ga gm gi n cap V L k e := by
  intro M u A Ak c ck w hrn hcell hws hc hok hM hA
  obtain ⟨hga, hgm⟩ := hA.lt
  obtain ⟨kj, hx, hr, hrow⟩ := find_kids hkids hrn hcell
  have hul : u.length ≤ 60 := Nat.le_trans hok.1 (by omega)
  have HRV := Hid.mk (rev_eq e u)
  rw [hop] at HRV ⊢
  obtain ⟨bb, o, rfl, hcs⟩ := row_place (by omega) hrow
  have P0 : 0 < e.l.length := by omega
  have c0 := hcs 0 P0
  have P1 : 1 < e.l.length := by omega
  have c1 := hcs 1 P1
  rw [Nat.add_zero] at c0
  rw [hlen]
  have hM1 := hM.alloc (.cells #[.int .i64 7, .string (bs e.s), .slice (some ⟨bb, o, none⟩) 2 ck] 130)
  have hA1 := hA.kp ((Kp.refl [] w).alloc (.cells #[.int .i64 7, .string (bs e.s), .slice (some ⟨bb, o, none⟩) 2 ck] 130)) (by simp) (by simp)
  have hb1 := Box.new hM #[.int .i64 7, .string (bs e.s), .slice (some ⟨bb, o, none⟩) 2 ck] 130
  have hk1 : Kp [gm] w (w.alloc (.cells #[.int .i64 7, .string (bs e.s), .slice (some ⟨bb, o, none⟩) 2 ck] 130)) := (Kp.refl [gm] w).alloc _
  have HH := Hid.mk (And.intro hM1 (And.intro hA1 (And.intro hk1 hb1)))
  have q0 := hM1.cell c0
  have HC0 := Hid.mk (hx 0 P0 M u A c _ (hr 0 P0) hws hc hok hM1 hA1)
  have HC1 := Hid.mk (fun w hM hA => hx 1 P1 M u A c w (hr 1 P1) hws hc hok hM hA)
  have HK1 := Hid.mk c1
  have HV : Hid (rev e u = (rev (e.l[0]'P0) u && !(rev (e.l[1]'P1) u))) := Hid.mk (by rw [HRV.out]; show (nth (revs e.l) 0 u && !(nth (revs e.l) 1 u)) = _; rw [nth_rev P0, nth_rev P1])
  clear hkids hrn hcell hws hc hok hM hA hx hr hrow hM1 hA1 hb1 hk1 hop hlen hl hcs c0 c1
  cases hv0 : rev (e.l[0]'P0) u with
  | false =>
    rw [hv0] at HC0
    have HX : Hid (false = rev e u) := Hid.mk (by rw [HV.out, hv0]; rfl)
    clear hv0 HV HC1
    have HC := HC0
    clear HC0
    go_enter Tryz.func91, Tryz.ntmps91
    go_wp2_with fail
    (with_reducible refine HC.out.mono ?_)
    rintro en w5 ⟨rfl, hM5, hA5, hk5⟩
    have HZ := Hid.mk (And.intro hM5 (And.intro hA5 (HH.out.2.2.1.trans hk5)))
    clear hM5 hA5 hk5
    go_wp2_with fail
    go_ret
    exact ⟨ret_bool HX.out, HZ.out⟩
  | true =>
    rw [hv0] at HC0
    have HX : Hid ((!(rev (e.l[1]'P1) u)) = rev e u) := Hid.mk (by rw [HV.out, hv0]; rfl)
    clear hv0 HV
    go_enter Tryz.func91, Tryz.ntmps91
    go_wp2_with fail
    (with_reducible refine HC0.out.mono ?_)
    rintro en w5 ⟨rfl, hM5, hA5, hk5⟩
    have hb5 := HH.out.2.2.2.same hk5 (by simp; omega)
    have p2 : w5.cell? ⟨w.heap.size, 2, none⟩ = some (.slice (some ⟨bb, o, none⟩) 2 ck) := hb5.cell 2
    have q1 := hM5.cell HK1.out
    have HC := Hid.mk (HC1.out w5 hM5 hA5)
    have HK5 := Hid.mk (HH.out.2.2.1.trans hk5)
    clear hM5 hA5 hk5 hb5 HC0 HC1
    go_wp2_with fail
    (with_reducible refine HC.out.mono ?_)
    rintro en w6 ⟨rfl, hM6, hA6, hk6⟩
    have HZ := Hid.mk (And.intro hM6 (And.intro hA6 (HK5.out.trans hk6)))
    clear hM6 hA6 hk6 p2 q1
    go_wp2_with fail
    go_ret
    exact ⟨ret_bool HX.out, HZ.out⟩
set_option maxRecDepth 100000 in
set_option maxHeartbeats 2000000 in
theorem rfind_9 {ga gm gi n cap L k : Nat} {V : Bs → Bool} {e : E} (hL : L ≤ 60) (hop : e.op = 9) (hlen : e.l.length = 1) (hl : e.l.length ≤ 1000000) (hkids : ∀ j, (h : j < e.l.length) → RH ga gm gi n cap V L (k + 1 + sizes (e.l.take j)) e.l[j]) : RF ga gm gi n cap V L k e := by
  intro M u A Ak c ck w hrn hcell hws hc hok hM hA
  obtain ⟨hga, hgm⟩ := hA.lt
  obtain ⟨kj, hx, hr, hrow⟩ := find_kids hkids hrn hcell
  have hul : u.length ≤ 60 := Nat.le_trans hok.1 (by omega)
  have HRV := Hid.mk (rev_eq e u)
  rw [hop] at HRV ⊢
  obtain ⟨bb, o, rfl, hcs⟩ := row_place (by omega) hrow
  have P0 : 0 < e.l.length := by omega
  have c0 := hcs 0 P0
  rw [Nat.add_zero] at c0
  rw [hlen]
  have hM1 := hM.alloc (.cells #[.int .i64 9, .string (bs e.s), .slice (some ⟨bb, o, none⟩) 1 ck] 130)
  have hA1 := hA.kp ((Kp.refl [] w).alloc (.cells #[.int .i64 9, .string (bs e.s), .slice (some ⟨bb, o, none⟩) 1 ck] 130)) (by simp) (by simp)
  have hb1 := Box.new hM #[.int .i64 9, .string (bs e.s), .slice (some ⟨bb, o, none⟩) 1 ck] 130
  have hk1 : Kp [gm] w (w.alloc (.cells #[.int .i64 9, .string (bs e.s), .slice (some ⟨bb, o, none⟩) 1 ck] 130)) := (Kp.refl [gm] w).alloc _
  have HH := Hid.mk (And.intro hM1 (And.intro hA1 (And.intro hk1 hb1)))
  have q0 := hM1.cell c0
  have HCH := Hid.mk (hx 0 P0 M u A c _ (hr 0 P0) hws hc hok hM1 hA1)
  have HC0 := Hid.mk (rArow_calls hL (hx 0 P0) M u A c _ (hr 0 P0) hws hc hok hM1 hA1)
  have HC1 := Hid.mk (fun w hM hA => hx 0 P0 M u A c w (hr 0 P0) hws hc hok hM hA)
  have HK1 := Hid.mk c0
  have HV : Hid (rev e u = ((!(u == []) && starB (rev (e.l[0]'P0)) u) || rev (e.l[0]'P0) u)) := Hid.mk (by rw [HRV.out]; show ((!(u == []) && starB (nth (revs e.l) 0) u) || nth (revs e.l) 0 u) = _; rw [nth_rev P0])
  clear hkids hrn hcell hws hc hok hM hA hx hr hrow hM1 hA1 hb1 hk1 hop hlen hl hcs c0
  by_cases hu : u = []
  · have HX : Hid (rev (e.l[0]'P0) u = rev e u) := Hid.mk (by rw [HV.out, hu]; simp)
    have h1 : ¬ (0 : Int) < (u.length : Int) := by rw [hu]; simp
    have h2 : ¬ 0 < u.length := by rw [hu]; simp
    have HC := HCH
    clear hu HV HCH HC0 HC1
    go_enter Tryz.func91, Tryz.ntmps91
    go_wp2_with fail
    (with_reducible refine HC.out.mono ?_)
    rintro en w5 ⟨rfl, hM5, hA5, hk5⟩
    have HZ := Hid.mk (And.intro hM5 (And.intro hA5 (HH.out.2.2.1.trans hk5)))
    clear hM5 hA5 hk5
    go_wp2_with fail
    go_ret
    exact ⟨ret_bool HX.out, HZ.out⟩
  · have h2 : 0 < u.length := List.length_pos_iff.2 hu
    have h1 : (0 : Int) < (u.length : Int) := by omega
    have hue : (u == []) = false := by simpa using hu
    cases hv0 : starB (rev (e.l[0]'P0)) u with
    | true =>
      rw [hv0] at HC0
      have HX : Hid (true = rev e u) := Hid.mk (by rw [HV.out, hv0, hue]; rfl)
      have HC := HC0
      clear hv0 HV HCH HC0 HC1 hu hue
      go_enter Tryz.func91, Tryz.ntmps91
      go_wp2_with fail
      (with_reducible refine HC.out.mono ?_)
      rintro en w5 ⟨rfl, hM5, hA5, hk5⟩
      have HZ := Hid.mk (And.intro hM5 (And.intro hA5 (HH.out.2.2.1.trans hk5)))
      clear hM5 hA5 hk5
      go_wp2_with fail
      go_ret
      exact ⟨ret_bool HX.out, HZ.out⟩
    | false =>
      rw [hv0] at HC0
      have HX : Hid (rev (e.l[0]'P0) u = rev e u) := Hid.mk (by rw [HV.out, hv0]; simp)
      clear hv0 HV HCH hu hue
      go_enter Tryz.func91, Tryz.ntmps91
      go_wp2_with fail
      (with_reducible refine HC0.out.mono ?_)
      rintro en w5 ⟨rfl, hM5, hA5, hk5⟩
      have hb5 := HH.out.2.2.2.same hk5 (by simp; omega)
      have p2 : w5.cell? ⟨w.heap.size, 2, none⟩ = some (.slice (some ⟨bb, o, none⟩) 1 ck) := hb5.cell 2
      have q1 := hM5.cell HK1.out
      have HC := Hid.mk (HC1.out w5 hM5 hA5)
      have HK5 := Hid.mk (HH.out.2.2.1.trans hk5)
      clear hM5 hA5 hk5 hb5 HC0 HC1
      go_wp2_with fail
      (with_reducible refine HC.out.mono ?_)
      rintro en w6 ⟨rfl, hM6, hA6, hk6⟩
      have HZ := Hid.mk (And.intro hM6 (And.intro hA6 (HK5.out.trans hk6)))
      clear hM6 hA6 hk6 p2 q1
      go_wp2_with fail
      go_ret
      exact ⟨ret_bool HX.out, HZ.out⟩
set_option maxRecDepth 100000 in
set_option maxHeartbeats 2000000 in
theorem rfind_10 {ga gm gi n cap L k : Nat} {V : Bs → Bool} {e : E} (hL : L ≤ 60) (hop : e.op = 10) (hlen : e.l.length = 1) (hl : e.l.length ≤ 1000000) (hkids : ∀ j, (h : j < e.l.length) → RH ga gm gi n cap V L (k + 1 + sizes (e.l.take j)) e.l[j]) : RF ga gm gi n cap V L k e := by
  intro M u A Ak c ck w hrn hcell hws hc hok hM hA
  obtain ⟨hga, hgm⟩ := hA.lt
  obtain ⟨kj, hx, hr, hrow⟩ := find_kids hkids hrn hcell
  have hul : u.length ≤ 60 := Nat.le_trans hok.1 (by omega)
  have HRV := Hid.mk (rev_eq e u)
  rw [hop] at HRV ⊢
  obtain ⟨bb, o, rfl, hcs⟩ := row_place (by omega) hrow
  have P0 : 0 < e.l.length := by omega
  have c0 := hcs 0 P0
  rw [Nat.add_zero] at c0
  rw [hlen]
  have hM1 := hM.alloc (.cells #[.int .i64 10, .string (bs e.s), .slice (some ⟨bb, o, none⟩) 1 ck] 130)
  have hA1 := hA.kp ((Kp.refl [] w).alloc (.cells #[.int .i64 10, .string (bs e.s), .slice (some ⟨bb, o, none⟩) 1 ck] 130)) (by simp) (by simp)
  have hb1 := Box.new hM #[.int .i64 10, .string (bs e.s), .slice (some ⟨bb, o, none⟩) 1 ck] 130
  have hk1 : Kp [gm] w (w.alloc (.cells #[.int .i64 10, .string (bs e.s), .slice (some ⟨bb, o, none⟩) 1 ck] 130)) := (Kp.refl [gm] w).alloc _
  have HH := Hid.mk (And.intro hM1 (And.intro hA1 (And.intro hk1 hb1)))
  have q0 := hM1.cell c0
  have HC := Hid.mk (hx 0 P0 M u A c _ (hr 0 P0) hws hc hok hM1 hA1)
  have HV : Hid (rev e u = (u == [] || rev (e.l[0]'P0) u)) := Hid.mk (by rw [HRV.out]; show (u == [] || nth (revs e.l) 0 u) = _; rw [nth_rev P0])
  clear hkids hrn hcell hws hc hok hM hA hx hr hrow hM1 hA1 hb1 hk1 hop hlen hl hcs c0
  by_cases hu : u = []
  · have HX : Hid (true = rev e u) := Hid.mk (by rw [HV.out, hu]; rfl)
    have h1 : ((u.length : Int) == 0) = true := by rw [hu]; rfl
    clear hu HV HC
    go_enter Tryz.func91, Tryz.ntmps91
    go_wp2_with fail
    go_ret
    exact ⟨ret_bool HX.out, HH.out.1, HH.out.2.1, HH.out.2.2.1⟩
  · have h1 : ((u.length : Int) == 0) = false := by simpa using hu
    have HX : Hid (rev (e.l[0]'P0) u = rev e u) := Hid.mk (by rw [HV.out]; simp [hu])
    clear hu HV
    go_enter Tryz.func91, Tryz.ntmps91
    go_wp2_with fail
    (with_reducible refine HC.out.mono ?_)
    rintro en w5 ⟨rfl, hM5, hA5, hk5⟩
    have HZ := Hid.mk (And.intro hM5 (And.intro hA5 (HH.out.2.2.1.trans hk5)))
    clear hM5 hA5 hk5
    go_wp2_with fail
    go_ret
    exact ⟨ret_bool HX.out, HZ.out⟩
end Go.Proofs.YtgdnhlckodhhgaaGreatDoor

/-
  The reference's asker: find (of any, of all).
-/
namespace Go.Proofs.YtgdnhlckodhhgaaGreatDoor
open Go.RowKit
set_option linter.unusedVariables false
set_option linter.unusedSimpArgs false
set_option maxRecDepth 100000 in
set_option maxHeartbeats 2000000 in
theorem rfind_5 {ga gm gi n cap L k : Nat} {V : Bs → Bool} {e : E} (hL : L ≤ 60) (hop : e.op = 5) (hlen : True) (hl : e.l.length ≤ 1000000) (hkids : ∀ j, (h : j < e.l.length) → RH ga gm gi n cap V L (k + 1 + sizes (e.l.take j)) e.l[j]) : RF ga gm gi n cap V L k e := by
  intro M u A Ak c ck w hrn hcell hws hc hok hM hA
  obtain ⟨hga, hgm⟩ := hA.lt
  obtain ⟨kj, hx, hr, hrow⟩ := find_kids hkids hrn hcell
  have hul : u.length ≤ 60 := Nat.le_trans hok.1 (by omega)
  have HRV := Hid.mk (rev_eq e u)
  rw [hop] at HRV ⊢
  have hM1 := hM.alloc (.cells #[.int .i64 5, .string (bs e.s), .slice Ak e.l.length ck] 130)
  have hA1 := hA.kp ((Kp.refl [] w).alloc (.cells #[.int .i64 5, .string (bs e.s), .slice Ak e.l.length ck] 130)) (by simp) (by simp)
  have hb1 := Box.new hM #[.int .i64 5, .string (bs e.s), .slice Ak e.l.length ck] 130
  have hk1 : Kp [gm] w (w.alloc (.cells #[.int .i64 5, .string (bs e.s), .slice Ak e.l.length ck] 130)) := (Kp.refl [gm] w).alloc _
  have HH := Hid.mk (And.intro hM1 (And.intro hA1 (And.intro hk1 hb1)))
  have HX := Hid.mk (fun j (h : j < e.l.length) w hM hA => hx j h M u A c w (hr j h) hws hc hok hM hA)
  have HRW := Hid.mk hrow
  have HV : Hid (rev e u = e.l.any (fun x => rev x u)) := Hid.mk (by rw [HRV.out]; show (revs e.l).any (fun p => p u) = _; rw [revs_map, List.any_map]; rfl)
  clear hkids hrn hcell hws hc hok hM hA hx hr hrow hM1 hA1 hb1 hk1 hop hlen
  go_enter Tryz.func91, Tryz.ntmps91
  go_wp2_with fail
  generalize hw1 : w.alloc (.cells #[.int .i64 5, .string (bs e.s), .slice Ak e.l.length ck] 130) = w1 at *
  have hs1 : w1.heap.size = w.heap.size + 1 := by rw [← hw1]; simp
  have HS1 := Hid.mk hs1
  clear hw1 hs1
  go_loopg [7] e.l.length (fun kk v wr => ∃ j : Nat, j ≤ e.l.length ∧ kk = e.l.length - j ∧ v = .int .i64 (j : Nat) ∧ Hid ((e.l.take j).any (fun x => rev x u) = false) ∧ Box wr M w.heap.size #[.int .i64 5, .string (bs e.s), .slice Ak e.l.length ck] 130 ∧ Hid (Mem wr M ∧ AsR wr M ga gm gi n cap V ∧ Kp [gm] w wr))
  case atStart => exact ⟨0, Nat.zero_le _, by simp, rfl, Hid.mk rfl, HH.out.2.2.2, Hid.mk ⟨HH.out.1, HH.out.2.1, HH.out.2.2.1⟩⟩
  case round =>
    clear HH
    obtain ⟨j, hj, hkk, rfl, HJ, hb, HY⟩ := hrel
    have p0 : wr.cell? ⟨w.heap.size, 0, none⟩ = some (.int .i64 5) := hb.cell 0
    have p2 : wr.cell? ⟨w.heap.size, 2, none⟩ = some (.slice Ak e.l.length ck) := hb.cell 2
    by_cases hlt : j < e.l.length
    · obtain ⟨bb, o, rfl, hcell⟩ := HRW.out j hlt
      have HCELL := Hid.mk hcell
      have HT := Hid.mk (any_take (p := fun x => rev x u) hlt)
      obtain ⟨τ, W, x0, hx0', hC, hin2⟩ := class_of (fun w' => Mem w' M ∧ AsR w' M ga gm gi n cap V ∧ Kp [gm] w w' ∧ Box w' M w.heap.size #[.int .i64 5, .string (bs e.s), .slice (some ⟨bb, o, none⟩) e.l.length ck] 130) (w := wr.drew) ⟨HY.out.1.drew, HY.out.2.1.kp ((Kp.refl [] _).drew) (by simp) (by simp), HY.out.2.2.drew, hb.drew⟩
      have hne : Nonempty τ := ⟨x0⟩
      have d0 : ∀ x, (W x).cell? ⟨bb, o + j, none⟩ = some (.int .i64 (kj j : Nat)) := fun x => (hC x).1.cell HCELL.out
      have d1 : ∀ x, (W x).cell? ⟨w.heap.size, 0, none⟩ = some (.int .i64 5) := fun x => (hC x).2.2.2.cell 0
      have d2 : ∀ x, (W x).cell? ⟨w.heap.size, 2, none⟩ = some (.slice (some ⟨bb, o, none⟩) e.l.length ck) := fun x => (hC x).2.2.2.cell 2
      have HC2 := Hid.mk hC
      have HIN := Hid.mk hin2
      have HXX := Hid.mk hx0'
      have HXJ := Hid.mk (HX.out j hlt)
      have hlt' : (j : Int) < (e.l.length : Int) := by omega
      clear hC hin2 hx0' hcell hb
      cases hv : rev e.l[j] u with
      | true =>
        have HP : Hid (∀ x, Calls Tryz.prog 50 #[.pointer (some ⟨ga, 0, none⟩), .int .i64 (kj j : Nat), .slice A u.length c] (W x) (fun e w' => e = .returned (.bool true) ∧ ∃ x, w' = W x)) := Hid.mk (fun x => (HXJ.out (W x) (HC2.out x).1 (HC2.out x).2.1).mono (fun e w5 h => by
          obtain ⟨rfl, hM5, hA5, hk5⟩ := h
          exact ⟨by rw [hv], HIN.out _ ⟨hM5, hA5, (HC2.out x).2.2.1.trans hk5, (HC2.out x).2.2.2.same hk5 (by simp; omega)⟩⟩))
        have HE : Hid (true = rev e u) := Hid.mk (by rw [HV.out]; exact (any_true (p := fun x => rev x u) hlt hv).symm)
        clear hv
        go_wp2_with fail
        refine wp_region_cls W x0 HXX.out (by kernel_rfl) (by kernel_rfl) ?_
        repeat (go_big_quiet_step (first | (go_at_call 50; exact HP.out _) | fail))
        refine wpQuiet_nil ?_
        rintro _ ⟨x, rfl⟩
        have HZ := Hid.mk (HC2.out x)
        have d1 := d1 x
        clear HP HC2 HIN HXX d0 d2
        go_wp2_with fail
        go_ret
        exact ⟨ret_bool HE.out, HZ.out.1, HZ.out.2.1, HZ.out.2.2.1⟩
      | false =>
        have HP : Hid (∀ x, Calls Tryz.prog 50 #[.pointer (some ⟨ga, 0, none⟩), .int .i64 (kj j : Nat), .slice A u.length c] (W x) (fun e w' => e = .returned (.bool false) ∧ ∃ x, w' = W x)) := Hid.mk (fun x => (HXJ.out (W x) (HC2.out x).1 (HC2.out x).2.1).mono (fun e w5 h => by
          obtain ⟨rfl, hM5, hA5, hk5⟩ := h
          exact ⟨by rw [hv], HIN.out _ ⟨hM5, hA5, (HC2.out x).2.2.1.trans hk5, (HC2.out x).2.2.2.same hk5 (by simp; omega)⟩⟩))
        have HVV := Hid.mk hv
        clear hv
        go_wp2_with fail
        refine wp_region_cls W x0 HXX.out (by kernel_rfl) (by kernel_rfl) ?_
        repeat (go_big_quiet_step (first | (go_at_call 50; exact HP.out _) | fail))
        refine wpQuiet_nil ?_
        rintro _ ⟨x, rfl⟩
        have HZ := Hid.mk (HC2.out x)
        clear HP HC2 HIN HXX d0 d1 d2
        go_wp2_with fail
        go_roundg (e.l.length - (j + 1))
        case measure => omega
        case rel => exact ⟨j + 1, by omega, rfl, by go_num, Hid.mk (by rw [HT.out, HJ.out, HVV.out]; rfl), HZ.out.2.2.2, Hid.mk ⟨HZ.out.1, HZ.out.2.1, HZ.out.2.2.1⟩⟩
    · obtain rfl : j = e.l.length := by omega
      have hnlt : ¬ ((e.l.length : Int) < (e.l.length : Int)) := by omega
      have HE : Hid (false = rev e u) := Hid.mk (by have := HJ.out; rw [List.take_length] at this; rw [HV.out, this])
      clear hb
      go_wp2_with fail
      go_ret
      exact ⟨ret_bool HE.out, HY.out⟩
set_option maxRecDepth 100000 in
set_option maxHeartbeats 2000000 in
theorem rfind_6 {ga gm gi n cap L k : Nat} {V : Bs → Bool} {e : E} (hL : L ≤ 60) (hop : e.op = 6) (hlen : True) (hl : e.l.length ≤ 1000000) (hkids : ∀ j, (h : j < e.l.length) → RH ga gm gi n cap V L (k + 1 + sizes (e.l.take j)) e.l[j]) : RF ga gm gi n cap V L k e := by
  intro M u A Ak c ck w hrn hcell hws hc hok hM hA
  obtain ⟨hga, hgm⟩ := hA.lt
  obtain ⟨kj, hx, hr, hrow⟩ := find_kids hkids hrn hcell
  have hul : u.length ≤ 60 := Nat.le_trans hok.1 (by omega)
  have HRV := Hid.mk (rev_eq e u)
  rw [hop] at HRV ⊢
  have hM1 := hM.alloc (.cells #[.int .i64 6, .string (bs e.s), .slice Ak e.l.length ck] 130)
  have hA1 := hA.kp ((Kp.refl [] w).alloc (.cells #[.int .i64 6, .string (bs e.s), .slice Ak e.l.length ck] 130)) (by simp) (by simp)
  have hb1 := Box.new hM #[.int .i64 6, .string (bs e.s), .slice Ak e.l.length ck] 130
  have hk1 : Kp [gm] w (w.alloc (.cells #[.int .i64 6, .string (bs e.s), .slice Ak e.l.length ck] 130)) := (Kp.refl [gm] w).alloc _
  have HH := Hid.mk (And.intro hM1 (And.intro hA1 (And.intro hk1 hb1)))
  have HX := Hid.mk (fun j (h : j < e.l.length) w hM hA => hx j h M u A c w (hr j h) hws hc hok hM hA)
  have HRW := Hid.mk hrow
  have HV : Hid (rev e u = e.l.all (fun x => rev x u)) := Hid.mk (by rw [HRV.out]; show (revs e.l).all (fun p => p u) = _; rw [revs_map, List.all_map]; rfl)
  clear hkids hrn hcell hws hc hok hM hA hx hr hrow hM1 hA1 hb1 hk1 hop hlen
  go_enter Tryz.func91, Tryz.ntmps91
  go_wp2_with fail
  generalize hw1 : w.alloc (.cells #[.int .i64 6, .string (bs e.s), .slice Ak e.l.length ck] 130) = w1 at *
  have hs1 : w1.heap.size = w.heap.size + 1 := by rw [← hw1]; simp
  have HS1 := Hid.mk hs1
  clear hw1 hs1
  go_loopg [7] e.l.length (fun kk v wr => ∃ j : Nat, j ≤ e.l.length ∧ kk = e.l.length - j ∧ v = .int .i64 (j : Nat) ∧ Hid ((e.l.take j).all (fun x => rev x u) = true) ∧ Box wr M w.heap.size #[.int .i64 6, .string (bs e.s), .slice Ak e.l.length ck] 130 ∧ Hid (Mem wr M ∧ AsR wr M ga gm gi n cap V ∧ Kp [gm] w wr))
  case atStart => exact ⟨0, Nat.zero_le _, by simp, rfl, Hid.mk rfl, HH.out.2.2.2, Hid.mk ⟨HH.out.1, HH.out.2.1, HH.out.2.2.1⟩⟩
  case round =>
    clear HH
    obtain ⟨j, hj, hkk, rfl, HJ, hb, HY⟩ := hrel
    have p0 : wr.cell? ⟨w.heap.size, 0, none⟩ = some (.int .i64 6) := hb.cell 0
    have p2 : wr.cell? ⟨w.heap.size, 2, none⟩ = some (.slice Ak e.l.length ck) := hb.cell 2
    by_cases hlt : j < e.l.length
    · obtain ⟨bb, o, rfl, hcell⟩ := HRW.out j hlt
      have HCELL := Hid.mk hcell
      have HT := Hid.mk (alls_take (p := fun x => rev x u) hlt)
      obtain ⟨τ, W, x0, hx0', hC, hin2⟩ := class_of (fun w' => Mem w' M ∧ AsR w' M ga gm gi n cap V ∧ Kp [gm] w w' ∧ Box w' M w.heap.size #[.int .i64 6, .string (bs e.s), .slice (some ⟨bb, o, none⟩) e.l.length ck] 130) (w := wr.drew) ⟨HY.out.1.drew, HY.out.2.1.kp ((Kp.refl [] _).drew) (by simp) (by simp), HY.out.2.2.drew, hb.drew⟩
      have hne : Nonempty τ := ⟨x0⟩
      have d0 : ∀ x, (W x).cell? ⟨bb, o + j, none⟩ = some (.int .i64 (kj j : Nat)) := fun x => (hC x).1.cell HCELL.out
      have d1 : ∀ x, (W x).cell? ⟨w.heap.size, 0, none⟩ = some (.int .i64 6) := fun x => (hC x).2.2.2.cell 0
      have d2 : ∀ x, (W x).cell? ⟨w.heap.size, 2, none⟩ = some (.slice (some ⟨bb, o, none⟩) e.l.length ck) := fun x => (hC x).2.2.2.cell 2
      have HC2 := Hid.mk hC
      have HIN := Hid.mk hin2
      have HXX := Hid.mk hx0'
      have HXJ := Hid.mk (HX.out j hlt)
      have hlt' : (j : Int) < (e.l.length : Int) := by omega
      clear hC hin2 hx0' hcell hb
      cases hv : rev e.l[j] u with
      | false =>
        have HP : Hid (∀ x, Calls Tryz.prog 50 #[.pointer (some ⟨ga, 0, none⟩), .int .i64 (kj j : Nat), .slice A u.length c] (W x) (fun e w' => e = .returned (.bool false) ∧ ∃ x, w' = W x)) := Hid.mk (fun x => (HXJ.out (W x) (HC2.out x).1 (HC2.out x).2.1).mono (fun e w5 h => by
          obtain ⟨rfl, hM5, hA5, hk5⟩ := h
          exact ⟨by rw [hv], HIN.out _ ⟨hM5, hA5, (HC2.out x).2.2.1.trans hk5, (HC2.out x).2.2.2.same hk5 (by simp; omega)⟩⟩))
        have HE : Hid (false = rev e u) := Hid.mk (by rw [HV.out]; exact (alls_false (p := fun x => rev x u) hlt hv).symm)
        clear hv
        go_wp2_with fail
        refine wp_region_cls W x0 HXX.out (by kernel_rfl) (by kernel_rfl) ?_
        repeat (go_big_quiet_step (first | (go_at_call 50; exact HP.out _) | fail))
        refine wpQuiet_nil ?_
        rintro _ ⟨x, rfl⟩
        have HZ := Hid.mk (HC2.out x)
        have d1 := d1 x
        clear HP HC2 HIN HXX d0 d2
        go_wp2_with fail
        go_ret
        exact ⟨ret_bool HE.out, HZ.out.1, HZ.out.2.1, HZ.out.2.2.1⟩
      | true =>
        have HP : Hid (∀ x, Calls Tryz.prog 50 #[.pointer (some ⟨ga, 0, none⟩), .int .i64 (kj j : Nat), .slice A u.length c] (W x) (fun e w' => e = .returned (.bool true) ∧ ∃ x, w' = W x)) := Hid.mk (fun x => (HXJ.out (W x) (HC2.out x).1 (HC2.out x).2.1).mono (fun e w5 h => by
          obtain ⟨rfl, hM5, hA5, hk5⟩ := h
          exact ⟨by rw [hv], HIN.out _ ⟨hM5, hA5, (HC2.out x).2.2.1.trans hk5, (HC2.out x).2.2.2.same hk5 (by simp; omega)⟩⟩))
        have HVV := Hid.mk hv
        clear hv
        go_wp2_with fail
        refine wp_region_cls W x0 HXX.out (by kernel_rfl) (by kernel_rfl) ?_
        repeat (go_big_quiet_step (first | (go_at_call 50; exact HP.out _) | fail))
        refine wpQuiet_nil ?_
        rintro _ ⟨x, rfl⟩
        have HZ := Hid.mk (HC2.out x)
        clear HP HC2 HIN HXX d0 d1 d2
        go_wp2_with fail
        go_roundg (e.l.length - (j + 1))
        case measure => omega
        case rel => exact ⟨j + 1, by omega, rfl, by go_num, Hid.mk (by rw [HT.out, HJ.out, HVV.out]; rfl), HZ.out.2.2.2, Hid.mk ⟨HZ.out.1, HZ.out.2.1, HZ.out.2.2.1⟩⟩
    · obtain rfl : j = e.l.length := by omega
      have hnlt : ¬ ((e.l.length : Int) < (e.l.length : Int)) := by omega
      have HE : Hid (true = rev e u) := Hid.mk (by have := HJ.out; rw [List.take_length] at this; rw [HV.out, this])
      clear hb
      go_wp2_with fail
      go_ret
      exact ⟨ret_bool HE.out, HY.out⟩
end Go.Proofs.YtgdnhlckodhhgaaGreatDoor
