/-
  The reference's asker: NewAsker, and Holds of it.
-/
import Derived.Test.YtgdnhlckodhhgaaGreatDoorJV40
import Derived.Test.YtgdnhlckodhhgaaGreatDoorJVN
namespace Go.Proofs.YtgdnhlckodhhgaaGreatDoor
open Go.RowKit
set_option linter.unusedVariables false
set_option linter.unusedSimpArgs false
theorem cellM_own {w : World} {M : Heap} {base size n g cap : Nat} {e : TypeId} {xs : List Value} (h : w.ownsRow base e size (.slice (some ⟨g, 0, none⟩) n cap) n xs) (hM : M g = w.heap[g]?) {j : Nat} {u : Value} (hj : xs[j]? = some u) : cellM M ⟨g, j, none⟩ = some u := by
  obtain ⟨cur, spare, h1, h2, _⟩ := ownb_block h
  simp only [cellM, hM, h1]
  have : cur[j]? = some u := by
    rw [← Array.getElem?_toList, h2, List.getElem?_append_left (List.getElem?_eq_some_iff.1 hj).1]
    exact hj
  simpa using this
theorem rn_of {w : World} {M : Heap} {base gi n cap : Nat} {X : List It} (hI : Its w base (.slice (some ⟨gi, 0, none⟩) X.length cap) X) (hn : X.length = n) (hM : ∀ b, base ≤ b → M b = w.heap[b]?) {k : Nat} {e : E} (h : PT X k e) : RN M gi n k e := by
  induction h with
  | mk k e t h ho hs hk kids ih =>
    have hgi : base ≤ gi := ownb_base hI.own rfl
    have hc := itCells_at X k t h
    have hr := hI.rows k t h
    have hl : t.ks.length = e.l.length := by rw [hk, nums_len]
    obtain ⟨A, c, hv, hc2, hA⟩ := ownb_shape hr
    have e1 : e = .mk e.op e.s e.l := by cases e; rfl
    rw [e1]
    refine .mk k e.op e.s e.l A c (fun j => k + 1 + sizes (e.l.take j)) (by rw [← hn]; exact (List.getElem?_eq_some_iff.1 h).1) ?_ ?_ ?_ (fun j hj => ?_) (fun j hj => ih j hj) (fun j hj => rfl)
    · rw [← ho]; exact cellM_own hI.own (hM gi hgi) hc.1
    · rw [← hs]; exact cellM_own hI.own (hM gi hgi) hc.2.1
    · have := cellM_own hI.own (hM gi hgi) hc.2.2
      rw [hv, hl] at this
      exact this
    · obtain ⟨g, cap', hv', _⟩ := ownb_some hr (by omega)
      rw [hv] at hv'
      simp only [Value.slice.injEq] at hv'
      obtain ⟨rfl, _, _⟩ := hv'
      refine ⟨g, 0, rfl, ?_⟩
      rw [hv] at hr
      have hg : base ≤ g := ownb_base hr rfl
      rw [Nat.zero_add]
      refine cellM_own hr (hM g hg) ?_
      rw [hk]
      simp [nats, nums, List.getElem?_range hj]
/-- What NewAsker leaves. -/
def NAEnd (L : Nat) (M : Heap) (e : E) (w : World) (en : Ending) (w' : World) : Prop :=
  ∃ ga gm gi cap V M', en = .returned (.pointer (some ⟨ga, 0, none⟩)) ∧ Kp [] w w' ∧ Ext w.heap.size M M' ∧ Mem w' M' ∧ AsR w' M' ga gm gi e.size cap V ∧ RN M' gi e.size 0 e ∧ e.size ≤ cap ∧ w.heap.size ≤ ga ∧ w.heap.size ≤ gm ∧ ∀ k' e', Sub 0 e k' e' → ∀ u, OkW L u → V (rkey k' u) = rev e' u
set_option maxRecDepth 100000 in
set_option maxHeartbeats 2000000 in
theorem rNewAsker_calls {L : Nat} {e : E} {A : Option Addr} {c : Nat} {M : Heap} (he : ExV M e A c) (hsz : e.size ≤ 100) (w : World) (hM : Mem w M) :
    Calls Tryz.prog 19 #[.agg #[.int .i64 e.op, .string (bs e.s), .slice A e.l.length c]] w (NAEnd L M e w) := by
  have hmm := @run_makeMap Tryz.prog
  have hnew : ∀ b, w.heap.size + 3 ≤ b → M b = none := fun b hb => hM.ge (by omega)
  have hM3 := ((hM.alloc (.cells #[.int .i64 e.op, .string (bs e.s), .slice A e.l.length c] 24)).alloc (.map #[] 0)).alloc (.cells #[.slice none 0 0, .map (some (w.heap.size + 1))] 76)
  have hs1 : (w.alloc (.cells #[.int .i64 e.op, .string (bs e.s), .slice A e.l.length c] 24)).heap.size = w.heap.size + 1 := by simp
  have hs2 : ((w.alloc (.cells #[.int .i64 e.op, .string (bs e.s), .slice A e.l.length c] 24)).alloc (.map #[] 0)).heap.size = w.heap.size + 2 := by simp
  have hs3 : (((w.alloc (.cells #[.int .i64 e.op, .string (bs e.s), .slice A e.l.length c] 24)).alloc (.map #[] 0)).alloc (.cells #[.slice none 0 0, .map (some (w.heap.size + 1))] 76)).heap.size = w.heap.size + 3 := by simp
  have hB := Box.new ((hM.alloc (.cells #[.int .i64 e.op, .string (bs e.s), .slice A e.l.length c] 24)).alloc (.map #[] 0)) #[.slice none 0 0, .map (some (w.heap.size + 1))] 76
  rw [hs2] at hB
  have hB0 := (((Box.new hM #[.int .i64 e.op, .string (bs e.s), .slice A e.l.length c] 24).alloc (.map #[] 0)).alloc (.cells #[.slice none 0 0, .map (some (w.heap.size + 1))] 76)).three.1
  have hbm := (Blk.new (hM.alloc (.cells #[.int .i64 e.op, .string (bs e.s), .slice A e.l.length c] 24)) (.map #[] 0)).alloc (.cells #[.slice none 0 0, .map (some (w.heap.size + 1))] 76)
  rw [hs1] at hbm
  have HADD := Hid.mk (add_calls (gm := w.heap.size + 1) hnew (by omega : w.heap.size + 2 < w.heap.size + 3) e.size e A c _ (.slice none 0 0) [] he hM3 hB (by rw [hs3]; exact Nat.le_refl _) ⟨⟨rfl, .inl ⟨rfl, rfl⟩⟩, fun i t h => by simp at h, fun i t h => by simp at h, fun i j t t' h => by simp at h⟩ (Nat.le_refl _) (by simp; omega))
  have HK0 := Hid.mk ((((Kp.refl [] w).alloc (.cells #[.int .i64 e.op, .string (bs e.s), .slice A e.l.length c] 24)).alloc (.map #[] 0)).alloc (.cells #[.slice none 0 0, .map (some (w.heap.size + 1))] 76))
  have HX := Hid.mk (And.intro hM (And.intro hM3 (And.intro hB hbm)))
  obtain ⟨p0, p1, p2⟩ := hB0
  clear he hM hM3 hnew hB hbm
  go_enter Tryz.func19, Tryz.ntmps19
  go_wp2_with fail
  refine HADD.out.mono ?_
  intro en w5 hadd
  obtain ⟨rfl, vi', new, hl, hB5, hI5, hP5, hK5⟩ := hadd
  have HZ := Hid.mk (And.intro hl (And.intro hB5 (And.intro hI5 (And.intro hP5 hK5))))
  clear hl hB5 hI5 hP5 hK5
  go_wp2_with fail
  go_ret
  obtain ⟨hl, hB5, hI5, hP5, hK5⟩ := HZ.out
  obtain ⟨hM, hM3, hB, hbm⟩ := HX.out
  simp only [List.nil_append, List.length_nil] at hI5 hP5
  have hp := size_pos e
  obtain ⟨gi, cap, rfl, hcap⟩ := ownb_some hI5.own (by omega)
  rw [hl] at hcap hB5
  obtain ⟨V, hV⟩ := keys_ex L e hsz
  have hgib : w.heap.size + 3 ≤ gi := ownb_base hI5.own rfl
  have hm5 : w5.heap[w.heap.size + 1]? = some (.map #[] 0) := (hK5.block (w.heap.size + 1) (by rw [hs3]; omega) (by omega) (by simp [Value.ownBlock])).trans hbm.blk
  have hM' : ∃ M' : Heap, M' = fun b => if b < w.heap.size then M b else if b = w.heap.size + 2 ∨ b = w.heap.size + 1 then none else w5.heap[b]? := ⟨_, rfl⟩
  obtain ⟨M', hM'⟩ := hM'
  have hup : ∀ b, w.heap.size + 3 ≤ b → M' b = w5.heap[b]? := fun b hb => by
    rw [hM']
    simp only
    rw [if_neg (by omega), if_neg (by omega)]
  have hx : Ext w.heap.size M M' := by
    refine ⟨fun b o hb => ?_, fun b o hb => ?_⟩
    · rw [hM']; simp only; rw [if_pos (hM.lt hb)]; exact hb
    · rcases Nat.lt_or_ge b w.heap.size with h | h
      · rw [hM'] at hb; simp only at hb; rw [if_pos h] at hb; exact .inl hb
      · exact .inr h
  have hMM : Mem w5 M' := fun b o hb => by
    rw [hM'] at hb
    simp only at hb
    by_cases h : b < w.heap.size
    · rw [if_pos h] at hb
      exact hK5.mem hM3 hB.out (fun b hb => hM.ge (Nat.le_trans (by omega : w.heap.size ≤ w.heap.size + 3) hb)) (fun g hg => by simp [Value.ownBlock] at hg) b o hb
    · rw [if_neg h] at hb
      split at hb
      · cases hb
      · exact hb
  refine ⟨w.heap.size + 2, w.heap.size + 1, gi, cap, V, M', rfl, ?_, hx, hMM, ⟨#[], 0, ⟨hB5.blk, ?_⟩, ⟨hm5, ?_⟩, fun x hx => by simp at hx, by omega⟩, ?_, hcap, by omega, by omega, hV⟩
  · have hk0 := HK0.out
    refine ⟨hK5.os.trans hk0.os, hK5.tape.trans hk0.tape, hK5.output.trans hk0.output, Nat.le_trans hk0.size hK5.size, fun b hb _ => ?_⟩
    exact (hK5.block b (by rw [hs3]; omega) (by omega) (by simp [Value.ownBlock])).trans (hk0.block b hb (by simp))
  · rw [hM']; exact (if_neg (by omega)).trans (if_pos (by simp))
  · rw [hM']; exact (if_neg (by omega)).trans (if_pos (by simp))
  · exact rn_of hI5 hl hup hP5
/-- Holds of an asker. -/
theorem rAHolds_calls {ga gm gi n cap L : Nat} {V : Bs → Bool} {e : E} (hx : RH ga gm gi n cap V L 0 e) {M : Heap} {u : List Bs} {A : Option Addr} {c : Nat} (w : World) (hrn : RN M gi n 0 e) (hws : WvM M A u) (hc : u.length ≤ c) (hok : OkW L u) (hM : Mem w M) (hA : AsR w M ga gm gi n cap V) :
    Calls Tryz.prog 20 #[.pointer (some ⟨ga, 0, none⟩), .slice A u.length c] w (HR M ga gm gi n cap V w (rev e u)) := by
  have HC : Hid (Calls Tryz.prog 50 #[.pointer (some ⟨ga, 0, none⟩), .int .i64 0, .slice A u.length c] w (HR M ga gm gi n cap V w (rev e u))) := Hid.mk (hx M u A c w hrn hws hc hok hM hA)
  clear hx hrn hws hc hok hM hA
  go_enter Tryz.func20, Tryz.ntmps20
  go_wp2_with fail
  (with_reducible refine HC.out.mono ?_)
  rintro en w5 ⟨rfl, hM5, hA5, hk5⟩
  have HZ := Hid.mk (And.intro hM5 (And.intro hA5 hk5))
  clear hM5 hA5 hk5
  go_wp2_with fail
  go_ret
  exact ⟨rfl, HZ.out⟩
end Go.Proofs.YtgdnhlckodhhgaaGreatDoor

/-
  The reference's Holds.
-/
namespace Go.Proofs.YtgdnhlckodhhgaaGreatDoor
open Go.RowKit
set_option linter.unusedVariables false
set_option linter.unusedSimpArgs false
theorem asked {L : Nat} {M : Heap} {e : E} {u : List Bs} {A : Option Addr} {c : Nat} {w w' : World} {en : Ending} (hr : e.right = true) (hs : e.size ≤ 40) (hh : e.has 15 13 = true → L ≤ 10) (hL : L ≤ 60) (hws : WvM M A u) (hc : u.length ≤ c) (hok : OkW L u) (h : NAEnd L M e w en w') :
    ∃ ga, en = .returned (.pointer (some ⟨ga, 0, none⟩)) ∧ Kp [] w w' ∧ Calls Tryz.prog 20 #[.pointer (some ⟨ga, 0, none⟩), .slice A u.length c] w' (fun en w2 => en = .returned (.bool (rev e u)) ∧ Kp [] w w2) := by
  obtain ⟨ga, gm, gi, cap, V, M', rfl, hk, hx, hM', hA, hrn, hcap, hga, hgm, hV⟩ := h
  have hws' : WvM M' A u := by
    rcases hws with h | ⟨b, o, h1, h2⟩
    · exact .inl h
    · exact .inr ⟨b, o, h1, fun j hj => cellM_ext hx (h2 j hj)⟩
  refine ⟨ga, rfl, hk, (rAHolds_calls (rh_all hL hs hcap e.nest 0 e (Nat.le_refl _) (by omega) hr hh hV) w' hrn hws' hc hok hM' hA).mono ?_⟩
  rintro en w2 ⟨rfl, _, _, hk2⟩
  exact ⟨rfl, hk.inner hk2 (fun x hx => by simp at hx; exact .inr (by omega))⟩
theorem verdict_good {e : E} (h : verdict e = 0) : e.size ≤ 40 ∧ e.nest ≤ 12 ∧ e.right = true := by
  rw [verdict] at h
  split at h
  · cases h
  · rename_i h1
    split at h
    · rename_i h2; exact ⟨by omega, by omega, h2⟩
    · cases h
theorem wordErr_zero {ws : List Bs} (h : wordErr ws = 0) : OkW ws.length ws ∧ ws.length ≤ 60 := by
  rw [wordErr] at h
  split at h
  · cases h
  · rename_i h1
    split at h
    · rename_i h2
      exact ⟨⟨Nat.le_refl _, fun x hx => List.all_eq_true.1 h2 x hx⟩, by omega⟩
    · cases h
set_option maxRecDepth 100000 in
set_option maxHeartbeats 4000000 in
theorem rHolds_calls {e : E} {ss ws : List Bs} {M : Heap} {A Aw As : Option Addr} {c cs cw : Nat} (he : ExV M e A c) (hsz : e.size ≤ 1099511627776) (hwd : e.wide ≤ 1099511627776) (hss : WsM M As ss) (hcs : ss.length ≤ cs) (hls : ss.length ≤ 1099511627776) (hsl : ∀ s, s ∈ ss → s.length ≤ 1099511627776) (hws : WvM M Aw ws) (hcw : ws.length ≤ cw) (hlw : ws.length ≤ 1099511627776) (hwl : ∀ s, s ∈ ws → s.length ≤ 1099511627776) (w : World) (hM : Mem w M) :
    Calls Tryz.prog 11 #[.agg #[.int .i64 e.op, .string (bs e.s), .slice A e.l.length c], .slice As ss.length cs, .slice Aw ws.length cw] w (HEnd w (holdsR e ss ws)) := by
  have hM0 := hM.alloc (.cells #[.int .i64 e.op, .string (bs e.s), .slice A e.l.length c] 24)
  have hb0 := Box.new hM #[.int .i64 e.op, .string (bs e.s), .slice A e.l.length c] 24
  have HB : Hid (∀ w', Kp [] (w.alloc (.cells #[.int .i64 e.op, .string (bs e.s), .slice A e.l.length c] 24)) w' → Mem w' M ∧ (w'.cell? ⟨w.heap.size, 0, none⟩ = some (.int .i64 e.op) ∧ w'.cell? ⟨w.heap.size, 1, none⟩ = some (.string (bs e.s)) ∧ w'.cell? ⟨w.heap.size, 2, none⟩ = some (.slice A e.l.length c)) ∧ Kp [] w w') := Hid.mk (fun w' hk => ⟨hM0.kp hk (by simp), (hb0.same hk (by simp)).three.1, ((Kp.refl [] w).alloc _).trans hk⟩)
  obtain ⟨p0, p1, p2⟩ := hb0.three.1
  have HG := Hid.mk (rGiven_calls (c := c) (cs := cs) he (by omega) hwd hss hcs hls hsl _ hM0)
  have HW := Hid.mk (fun w (hM : Mem w M) => rValidateWord_calls ws Aw cw M w hM hws.ws hwl hlw hcw)
  have HO := Hid.mk (fun (h : e.size ≤ 1000000) w (hM : Mem w M) => rIsOver_calls (c := c) (cs := cs) he h hss hcs hls w hM)
  have HH := Hid.mk (fun w (hM : Mem w M) => rHas_calls (a := 15) (b := 13) e.size e A c w M he hM (Nat.le_refl _) (by omega))
  have HI := Hid.mk (fun w (hM : Mem w M) => rIs_calls (c := cs) (d := cw) hls hlw hss hcs hws.ws hcw w hM)
  have HNA := Hid.mk (fun (h : e.size ≤ 100) w (hM : Mem w M) => rNewAsker_calls (L := ws.length) he h w hM)
  have HWV := Hid.mk (And.intro hws hcw)
  clear hb0 hM0 he hss hcs hls hsl hws hcw hlw hwl hM hwd hsz
  by_cases hg : givenR e ss = 0
  · have hve : verdict e = 0 ∧ aErr ss = 0 := by
      unfold givenR at hg
      split at hg
      · rename_i h; exact absurd hg h
      · rename_i h; exact ⟨by simpa using h, hg⟩
    obtain ⟨hv, ha⟩ := hve
    obtain ⟨hs40, hn12, hright⟩ := verdict_good hv
    have HAL := Hid.mk (aErr_alpha ha)
    rw [hg] at HG
    have HX : Hid (HEnd w (holdsR e ss ws) = HEnd w (if wordErr ws ≠ 0 then (false, wordErr ws) else if e.syms.all (fun x => ss.any (· == x)) = false then (false, 4) else if 10 < ws.length ∧ e.has 15 13 = true then (false, 3) else (ws.all (fun x => ss.any (· == x)) && rev e ws, 0))) := Hid.mk (by
      unfold holdsR
      have e1 : bsF ss = fun x => ss.any (· == x) := by funext x; exact bsF_any HAL.out x
      rw [if_neg (by simp [hv]), if_neg (by simp [ha]), e1])
    have HRT := Hid.mk (And.intro hright hs40)
    rw [HX.out]
    clear hv ha hg hright hn12 HAL HX hs40
    by_cases hw0 : wordErr ws = 0
    · rw [hw0] at HW
      have HOK := Hid.mk (wordErr_zero hw0)
      rw [if_neg (by simp [hw0])]
      clear hw0
      cases hov : e.syms.all (fun x => ss.any (· == x)) with
      | false =>
        rw [hov] at HO
        rw [if_pos rfl]
        clear hov
        go_enter Tryz.func11, Tryz.ntmps11
        go_wp2_with fail
        (with_reducible refine HG.out.mono ?_)
        rintro en w2 ⟨rfl, hk2⟩
        obtain ⟨hM2, ⟨r0, r1, r2⟩, hkw⟩ := HB.out w2 hk2
        have HW2 := Hid.mk (HW.out w2 hM2)
        have HO2 := Hid.mk (HO.out (by have := HRT.out.2; omega) w2 hM2)
        have HKW := Hid.mk hkw
        clear p0 p1 p2 hk2 hM2 hkw
        go_wp2_with fail
        (with_reducible refine HW2.out.mono ?_)
        rintro en w3 ⟨rfl, rfl⟩
        go_wp2_with fail
        (with_reducible refine HO2.out.mono ?_)
        rintro en w4 ⟨rfl, hk4⟩
        have HK4 := Hid.mk (HKW.out.trans hk4)
        clear hk4 r0 r1 r2
        go_wp2_with fail
        go_ret2
        exact ⟨rfl, HK4.out⟩
      | true =>
        rw [hov] at HO
        rw [if_neg (by simp)]
        clear hov
        by_cases h10 : 10 < ws.length ∧ e.has 15 13 = true
        · rw [if_pos h10]
          have hb10 : (10 : Int) < (ws.length : Int) := by omega
          rw [h10.2] at HH
          clear h10
          go_enter Tryz.func11, Tryz.ntmps11
          go_wp2_with fail
          (with_reducible refine HG.out.mono ?_)
          rintro en w2 ⟨rfl, hk2⟩
          obtain ⟨hM2, ⟨r0, r1, r2⟩, hkw⟩ := HB.out w2 hk2
          have HW2 := Hid.mk (HW.out w2 hM2)
          have HO2 := Hid.mk (HO.out (by have := HRT.out.2; omega) w2 hM2)
          have HK2 := Hid.mk hk2
          clear p0 p1 p2 hk2 hM2 hkw
          go_wp2_with fail
          (with_reducible refine HW2.out.mono ?_)
          rintro en w3 ⟨rfl, rfl⟩
          go_wp2_with fail
          (with_reducible refine HO2.out.mono ?_)
          rintro en w4 ⟨rfl, hk4⟩
          obtain ⟨hM4, ⟨s0, s1, s2⟩, hkw4⟩ := HB.out w4 (HK2.out.trans hk4)
          have HH4 := Hid.mk (HH.out w4 hM4)
          have HKW4 := Hid.mk hkw4
          clear hk4 r0 r1 r2 hM4 hkw4
          go_wp2_with fail
          (with_reducible refine HH4.out.mono ?_)
          rintro en w5 ⟨rfl, hk5⟩
          have HK5 := Hid.mk (HKW4.out.trans hk5)
          clear hk5 s0 s1 s2
          go_wp2_with fail
          go_ret2
          exact ⟨rfl, HK5.out⟩
        · rw [if_neg h10]
          have HH10 : Hid (e.has 15 13 = true → ws.length ≤ 10) := Hid.mk (fun h => by
            rcases Nat.lt_or_ge 10 ws.length with h1 | h1
            · exact absurd ⟨h1, h⟩ h10
            · exact h1)
          cases hbi : ws.all (fun x => ss.any (· == x)) with
          | false =>
            rw [hbi] at HI
            rw [Bool.false_and]
            clear hbi
            by_cases hb10 : 10 < ws.length
            · have hb11 : (10 : Int) < (ws.length : Int) := by omega
              have hhas : e.has 15 13 = false := by
                cases h : e.has 15 13 with
                | false => rfl
                | true => exact absurd ⟨hb10, h⟩ h10
              rw [hhas] at HH
              clear hhas h10
              go_enter Tryz.func11, Tryz.ntmps11
              go_wp2_with fail
              (with_reducible refine HG.out.mono ?_)
              rintro en w2 ⟨rfl, hk2⟩
              obtain ⟨hM2, ⟨r0, r1, r2⟩, hkw⟩ := HB.out w2 hk2
              have HW2 := Hid.mk (HW.out w2 hM2)
              have HO2 := Hid.mk (HO.out (by have := HRT.out.2; omega) w2 hM2)
              have HK2 := Hid.mk hk2
              clear p0 p1 p2 hk2 hM2 hkw
              go_wp2_with fail
              (with_reducible refine HW2.out.mono ?_)
              rintro en w3 ⟨rfl, rfl⟩
              go_wp2_with fail
              (with_reducible refine HO2.out.mono ?_)
              rintro en w4 ⟨rfl, hk4⟩
              obtain ⟨hM4, ⟨s0, s1, s2⟩, hkw4⟩ := HB.out w4 (HK2.out.trans hk4)
              have HK4 := Hid.mk (HK2.out.trans hk4)
              have HH4 := Hid.mk (HH.out w4 hM4)
              have HI4 := Hid.mk (HI.out w4 hM4)
              have HNA4 := Hid.mk (HNA.out (by have := HRT.out.2; omega) w4 hM4)
              have HKW4 := Hid.mk hkw4
              clear hk4 r0 r1 r2 hM4 hkw4
              go_wp2_with fail
              (with_reducible refine HH4.out.mono ?_)
              rintro en w5 ⟨rfl, hk5⟩
              obtain ⟨hM4, ⟨s0', s1', s2'⟩, hkw4⟩ := HB.out w5 (HK4.out.trans hk5)
              have HI4 := Hid.mk (HI.out w5 hM4)
              have HNA4 := Hid.mk (HNA.out (by have := HRT.out.2; omega) w5 hM4)
              have HKW4 := Hid.mk hkw4
              clear hk5 hM4 hkw4 s0 s1 s2
              go_wp2_with fail
              (with_reducible refine HI4.out.mono ?_)
              rintro en w6 ⟨rfl, rfl⟩
              go_wp2_with fail
              go_ret2
              exact ⟨rfl, HKW4.out⟩
            · have hb11 : ¬ (10 : Int) < (ws.length : Int) := by omega
              clear h10
              go_enter Tryz.func11, Tryz.ntmps11
              go_wp2_with fail
              (with_reducible refine HG.out.mono ?_)
              rintro en w2 ⟨rfl, hk2⟩
              obtain ⟨hM2, ⟨r0, r1, r2⟩, hkw⟩ := HB.out w2 hk2
              have HW2 := Hid.mk (HW.out w2 hM2)
              have HO2 := Hid.mk (HO.out (by have := HRT.out.2; omega) w2 hM2)
              have HK2 := Hid.mk hk2
              clear p0 p1 p2 hk2 hM2 hkw
              go_wp2_with fail
              (with_reducible refine HW2.out.mono ?_)
              rintro en w3 ⟨rfl, rfl⟩
              go_wp2_with fail
              (with_reducible refine HO2.out.mono ?_)
              rintro en w4 ⟨rfl, hk4⟩
              obtain ⟨hM4, ⟨s0, s1, s2⟩, hkw4⟩ := HB.out w4 (HK2.out.trans hk4)
              have HK4 := Hid.mk (HK2.out.trans hk4)
              have HH4 := Hid.mk (HH.out w4 hM4)
              have HI4 := Hid.mk (HI.out w4 hM4)
              have HNA4 := Hid.mk (HNA.out (by have := HRT.out.2; omega) w4 hM4)
              have HKW4 := Hid.mk hkw4
              clear hk4 r0 r1 r2 hM4 hkw4
              go_wp2_with fail
              (with_reducible refine HI4.out.mono ?_)
              rintro en w6 ⟨rfl, rfl⟩
              go_wp2_with fail
              go_ret2
              exact ⟨rfl, HKW4.out⟩
          | true =>
            rw [hbi] at HI
            rw [Bool.true_and]
            clear hbi
            by_cases hb10 : 10 < ws.length
            · have hb11 : (10 : Int) < (ws.length : Int) := by omega
              have hhas : e.has 15 13 = false := by
                cases h : e.has 15 13 with
                | false => rfl
                | true => exact absurd ⟨hb10, h⟩ h10
              rw [hhas] at HH
              clear hhas h10
              go_enter Tryz.func11, Tryz.ntmps11
              go_wp2_with fail
              (with_reducible refine HG.out.mono ?_)
              rintro en w2 ⟨rfl, hk2⟩
              obtain ⟨hM2, ⟨r0, r1, r2⟩, hkw⟩ := HB.out w2 hk2
              have HW2 := Hid.mk (HW.out w2 hM2)
              have HO2 := Hid.mk (HO.out (by have := HRT.out.2; omega) w2 hM2)
              have HK2 := Hid.mk hk2
              clear p0 p1 p2 hk2 hM2 hkw
              go_wp2_with fail
              (with_reducible refine HW2.out.mono ?_)
              rintro en w3 ⟨rfl, rfl⟩
              go_wp2_with fail
              (with_reducible refine HO2.out.mono ?_)
              rintro en w4 ⟨rfl, hk4⟩
              obtain ⟨hM4, ⟨s0, s1, s2⟩, hkw4⟩ := HB.out w4 (HK2.out.trans hk4)
              have HK4 := Hid.mk (HK2.out.trans hk4)
              have HH4 := Hid.mk (HH.out w4 hM4)
              have HI4 := Hid.mk (HI.out w4 hM4)
              have HNA4 := Hid.mk (HNA.out (by have := HRT.out.2; omega) w4 hM4)
              have HKW4 := Hid.mk hkw4
              clear hk4 r0 r1 r2 hM4 hkw4
              go_wp2_with fail
              (with_reducible refine HH4.out.mono ?_)
              rintro en w5 ⟨rfl, hk5⟩
              obtain ⟨hM4, ⟨s0', s1', s2'⟩, hkw4⟩ := HB.out w5 (HK4.out.trans hk5)
              have HI4 := Hid.mk (HI.out w5 hM4)
              have HNA4 := Hid.mk (HNA.out (by have := HRT.out.2; omega) w5 hM4)
              have HKW4 := Hid.mk hkw4
              clear hk5 hM4 hkw4 s0 s1 s2
              go_wp2_with fail
              (with_reducible refine HI4.out.mono ?_)
              rintro en w6 ⟨rfl, rfl⟩
              go_wp2_with fail
              (with_reducible refine HNA4.out.mono ?_)
              intro en w7 hna
              obtain ⟨ga, rfl, hk7, hcall⟩ := asked HRT.out.1 HRT.out.2 HH10.out HOK.out.2 HWV.out.1 HWV.out.2 HOK.out.1 hna
              have HCALL := Hid.mk hcall
              clear hk7 hcall hna
              go_wp2_with fail
              (with_reducible refine HCALL.out.mono ?_)
              rintro en w8 ⟨rfl, hk8⟩
              have HK8 := Hid.mk (HKW4.out.trans hk8)
              clear hk8
              go_wp2_with fail
              go_ret2
              exact ⟨rfl, HK8.out⟩
            · have hb11 : ¬ (10 : Int) < (ws.length : Int) := by omega
              clear h10
              go_enter Tryz.func11, Tryz.ntmps11
              go_wp2_with fail
              (with_reducible refine HG.out.mono ?_)
              rintro en w2 ⟨rfl, hk2⟩
              obtain ⟨hM2, ⟨r0, r1, r2⟩, hkw⟩ := HB.out w2 hk2
              have HW2 := Hid.mk (HW.out w2 hM2)
              have HO2 := Hid.mk (HO.out (by have := HRT.out.2; omega) w2 hM2)
              have HK2 := Hid.mk hk2
              clear p0 p1 p2 hk2 hM2 hkw
              go_wp2_with fail
              (with_reducible refine HW2.out.mono ?_)
              rintro en w3 ⟨rfl, rfl⟩
              go_wp2_with fail
              (with_reducible refine HO2.out.mono ?_)
              rintro en w4 ⟨rfl, hk4⟩
              obtain ⟨hM4, ⟨s0, s1, s2⟩, hkw4⟩ := HB.out w4 (HK2.out.trans hk4)
              have HK4 := Hid.mk (HK2.out.trans hk4)
              have HH4 := Hid.mk (HH.out w4 hM4)
              have HI4 := Hid.mk (HI.out w4 hM4)
              have HNA4 := Hid.mk (HNA.out (by have := HRT.out.2; omega) w4 hM4)
              have HKW4 := Hid.mk hkw4
              clear hk4 r0 r1 r2 hM4 hkw4
              go_wp2_with fail
              (with_reducible refine HI4.out.mono ?_)
              rintro en w6 ⟨rfl, rfl⟩
              go_wp2_with fail
              (with_reducible refine HNA4.out.mono ?_)
              intro en w7 hna
              obtain ⟨ga, rfl, hk7, hcall⟩ := asked HRT.out.1 HRT.out.2 HH10.out HOK.out.2 HWV.out.1 HWV.out.2 HOK.out.1 hna
              have HCALL := Hid.mk hcall
              clear hk7 hcall hna
              go_wp2_with fail
              (with_reducible refine HCALL.out.mono ?_)
              rintro en w8 ⟨rfl, hk8⟩
              have HK8 := Hid.mk (HKW4.out.trans hk8)
              clear hk8
              go_wp2_with fail
              go_ret2
              exact ⟨rfl, HK8.out⟩
    · rw [if_pos hw0]
      have hw1 : (wordErr ws != 0) = true := by simpa using hw0
      generalize wordErr ws = x at *
      clear hw0
      go_enter Tryz.func11, Tryz.ntmps11
      go_wp2_with fail
      (with_reducible refine HG.out.mono ?_)
      rintro en w2 ⟨rfl, hk2⟩
      obtain ⟨hM2, ⟨r0, r1, r2⟩, hkw⟩ := HB.out w2 hk2
      have HW2 := Hid.mk (HW.out w2 hM2)
      have HKW := Hid.mk hkw
      clear p0 p1 p2 hk2 hM2 hkw r0 r1 r2
      go_wp2_with fail
      (with_reducible refine HW2.out.mono ?_)
      rintro en w3 ⟨rfl, rfl⟩
      go_wp2_with fail
      go_ret2
      exact ⟨rfl, HKW.out⟩
  · have HX : Hid (holdsR e ss ws = (false, givenR e ss)) := Hid.mk (by
      unfold holdsR givenR
      unfold givenR at hg
      by_cases hv : verdict e = 0
      · rw [if_neg (by simp [hv])] at hg
        rw [if_neg (by simp [hv]), if_pos hg, if_neg (by simp [hv])]
      · rw [if_pos hv, if_pos hv])
    have hg1 : (givenR e ss != 0) = true := by simpa using hg
    rw [HX.out]
    generalize givenR e ss = x at *
    clear hg HX
    go_enter Tryz.func11, Tryz.ntmps11
    go_wp2_with fail
    (with_reducible refine HG.out.mono ?_)
    rintro en w2 ⟨rfl, hk2⟩
    have HK2 := Hid.mk (HB.out w2 hk2).2.2
    clear p0 p1 p2 hk2
    go_wp2_with fail
    go_ret2
    exact ⟨rfl, HK2.out⟩
end Go.Proofs.YtgdnhlckodhhgaaGreatDoor
