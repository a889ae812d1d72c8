/-
  Whether an operation stands in an expression, by the program.
-/
import Derived.Test.YtgdnhlckodhhgaaGreatDoorJVL
import Derived.Test.YtgdnhlckodhhgaaGreatDoorJZ
import Derived.Test.YtgdnhlckodhhgaaGreatDoorJK
import Derived.BigQuiet
namespace Go.Proofs.YtgdnhlckodhhgaaGreatDoor
open Go.RowKit
set_option linter.unusedVariables false
set_option linter.unusedSimpArgs false
set_option maxRecDepth 100000 in
set_option maxHeartbeats 2000000 in
theorem IInt_calls {xs : List Int} {g o c : Nat} {v : Int} (w : World) (hl : xs.length ≤ 1000000) (hx : ∀ j, (h : j < xs.length) → w.cell? ⟨g, o + j, none⟩ = some (.int .i64 xs[j])) :
    Calls Tryz.prog 114 #[.slice (some ⟨g, o, none⟩) xs.length c, .int .i64 v] w fun e w' => (∃ i : Int, e = .returned (.int .i64 i) ∧ decide (0 ≤ i) = xs.any (fun x => v == x)) ∧ w = w' := by
  go_enter Tryz.func114, Tryz.ntmps114
  go_wp2_with fail
  go_loopg [8] xs.length (fun kk u wr => ∃ j : Nat, j ≤ xs.length ∧ kk = xs.length - j ∧ u = .int .i64 (j : Nat) ∧ Hid ((xs.take j).any (fun x => v == x) = false) ∧ wr = w)
  case atStart => exact ⟨0, Nat.zero_le _, by simp, rfl, Hid.mk rfl, rfl⟩
  case round =>
    obtain ⟨j, hj, hkk, rfl, HI, rfl⟩ := hrel
    by_cases hlt : j < xs.length
    · have q := hx j hlt
      have HT := Hid.mk (any_take (p := fun x => v == x) hlt)
      cases hb : v == xs[j] with
      | true =>
        have HE := Hid.mk (any_true (p := fun x => v == x) hlt hb)
        go_wp2_with fail
        go_ret
        exact ⟨⟨_, rfl, by rw [HE.out, decide_eq_true_eq]; omega⟩, rfl⟩
      | false =>
        have HBB := Hid.mk hb
        go_wp2_with fail
        go_roundg (xs.length - (j + 1))
        case measure => omega
        case rel => exact ⟨j + 1, by omega, rfl, by go_num, Hid.mk (by rw [HT.out, HI.out, HBB.out]; rfl), rfl⟩
    · obtain rfl : j = xs.length := by omega
      have hlt' : ¬ ((xs.length : Int) < (xs.length : Int)) := by omega
      have HE : Hid (xs.any (fun x => v == x) = false) := Hid.mk (by have := HI.out; rwa [List.take_length] at this)
      go_wp2_with fail
      go_ret
      exact ⟨⟨_, rfl, by rw [HE.out]; rfl⟩, rfl⟩
set_option maxRecDepth 100000 in
set_option maxHeartbeats 2000000 in
theorem CInt_calls {xs : List Int} {g o c : Nat} {v : Int} (w : World) (hl : xs.length ≤ 1000000) (hx : ∀ j, (h : j < xs.length) → w.cell? ⟨g, o + j, none⟩ = some (.int .i64 xs[j])) :
    Calls Tryz.prog 75 #[.slice (some ⟨g, o, none⟩) xs.length c, .int .i64 v] w fun e w' => e = .returned (.bool (xs.any (fun x => v == x))) ∧ w = w' := by
  have H := Hid.mk (IInt_calls (c := c) (v := v) w hl hx)
  clear hx
  go_enter Tryz.func75, Tryz.ntmps75
  go_wp2_with fail
  refine H.out.mono ?_
  rintro e w' ⟨⟨i, rfl, hi⟩, rfl⟩
  have HX := Hid.mk hi
  clear hi
  go_wp2_with fail
  go_ret
  exact ⟨ret_bool HX.out, rfl⟩
set_option maxRecDepth 100000 in
set_option maxHeartbeats 1000000 in
theorem IndexFuncEC_calls {K : Nat} {p : E → Bool} {e : E} {A : Option Addr} {c : Nat} {M : Heap} {cap : Array Value} {w0 : World} (h : ExV M e A c)
    (hcf : ∀ v w, (callFunc K (#[v] ++ cap)).run Tryz.prog w = .ok (.enter K (#[v] ++ cap)) w)
    (hK : ∀ x A c w, x ∈ e.l → ExV M x A c → Mem w M → Kp [] w0 w → Calls Tryz.prog K (#[.agg #[.int .i64 x.op, .string (bs x.s), .slice A x.l.length c]] ++ cap) w fun en w' => en = .returned (.bool (p x)) ∧ Kp [] w w')
    (hM : Mem w0 M) (hl : e.l.length ≤ 1099511627776) :
    Calls Tryz.prog 115 #[.slice A e.l.length c, .func (.func K) #[] cap] w0 fun en w' => (∃ i : Int, en = .returned (.int .i64 i) ∧ decide (0 ≤ i) = e.l.any p) ∧ Kp [] w0 w' := by
  have HC := Hid.mk hcf
  clear hcf
  by_cases h0 : e.l.length = 0
  · have HA := Hid.mk (show e.l.any p = false by rw [List.length_eq_zero_iff.1 h0]; rfl)
    rw [h0]
    clear h hl h0 hK
    go_enter Tryz.func115, Tryz.ntmps115
    go_wp2_with fail
    refine wp_loop_rounds 1 ?_
    rw [rounds_succ]
    go_wp2_with fail
    go_ret
    exact ⟨⟨_, rfl, HA.out.symm⟩, Kp.refl _ _⟩
  · obtain ⟨b, o, rfl⟩ := h.place (by omega)
    have HE := Hid.mk h
    have HK := Hid.mk hK
    clear h hK
    go_enter Tryz.func115, Tryz.ntmps115
    go_wp2_with fail
    go_loopg [8] e.l.length (fun k v8 wr => ∃ j : Nat, j ≤ e.l.length ∧ k = e.l.length - j ∧ v8 = .int .i64 (j : Nat) ∧ (e.l.take j).any p = false ∧ Mem wr M ∧ Kp [] w0 wr)
    case atStart => exact ⟨0, Nat.zero_le _, by simp, rfl, by simp, hM, Kp.refl _ _⟩
    case round =>
      obtain ⟨j, hj, hk, rfl, HJ, hM', hK'⟩ := hrel
      replace HJ := Hid.mk HJ
      by_cases hlt : j < e.l.length
      · obtain ⟨A', c', hx0, hx1, hx2, hx⟩ := HE.out.at_ j hlt
        have q0 := hM'.cell hx0
        have q1 := hM'.cell hx1
        have q2 := hM'.cell hx2
        have HT := Hid.mk (any_take (p := p) hlt)
        have HH := Hid.mk (And.intro hM' (And.intro hK' hx))
        have hcf := fun w => HC.out (.agg #[.int .i64 e.l[j].op, .string (bs e.l[j].s), .slice A' e.l[j].l.length c']) w
        clear hx0 hx1 hx2 hx hM' hK'
        by_cases hc : p e.l[j] = true
        · have HF := Hid.mk (any_true (p := p) hlt hc)
          go_wp2_with fail
          refine (HK.out e.l[j] A' c' _ (List.getElem_mem hlt) HH.out.2.2 HH.out.1 HH.out.2.1).mono ?_
          rintro en w2 ⟨rfl, hk2⟩
          go_wp2_with fail
          go_ret
          exact ⟨⟨_, rfl, by rw [HF.out, decide_eq_true_eq]; omega⟩, HH.out.2.1.trans hk2⟩
        · replace hc := Bool.eq_false_iff.2 hc
          have HD := Hid.mk hc
          go_wp2_with fail
          refine (HK.out e.l[j] A' c' _ (List.getElem_mem hlt) HH.out.2.2 HH.out.1 HH.out.2.1).mono ?_
          rintro en w2 ⟨rfl, hk2⟩
          go_wp2_with fail
          go_roundg (e.l.length - (j + 1))
          case measure => omega
          case rel => exact ⟨j + 1, by omega, rfl, by go_num, by rw [HT.out, HJ.out, HD.out]; rfl, HH.out.1.kp hk2 (by simp), HH.out.2.1.trans hk2⟩
      · obtain rfl : j = e.l.length := by omega
        have hlt' : ¬ ((e.l.length : Int) < (e.l.length : Int)) := by omega
        have HX := Hid.mk (show e.l.any p = false by have := HJ.out; rwa [List.take_length] at this)
        go_wp2_with fail
        go_ret
        exact ⟨⟨_, rfl, by rw [HX.out]; rfl⟩, hK'⟩
set_option maxRecDepth 100000 in
set_option maxHeartbeats 1000000 in
theorem ContainsFuncEC_calls {K : Nat} {p : E → Bool} {e : E} {A : Option Addr} {c : Nat} {M : Heap} {cap : Array Value} {w0 : World} (h : ExV M e A c)
    (hcf : ∀ v w, (callFunc K (#[v] ++ cap)).run Tryz.prog w = .ok (.enter K (#[v] ++ cap)) w)
    (hK : ∀ x A c w, x ∈ e.l → ExV M x A c → Mem w M → Kp [] w0 w → Calls Tryz.prog K (#[.agg #[.int .i64 x.op, .string (bs x.s), .slice A x.l.length c]] ++ cap) w fun en w' => en = .returned (.bool (p x)) ∧ Kp [] w w')
    (hM : Mem w0 M) (hl : e.l.length ≤ 1099511627776) :
    Calls Tryz.prog 76 #[.slice A e.l.length c, .func (.func K) #[] cap] w0 fun en w' => en = .returned (.bool (e.l.any p)) ∧ Kp [] w0 w' := by
  have H := Hid.mk (IndexFuncEC_calls h hcf hK hM hl)
  clear h hcf hK hM hl
  go_enter Tryz.func76, Tryz.ntmps76
  go_wp2_with fail
  refine H.out.mono ?_
  rintro en w' ⟨⟨i, rfl, hi⟩, hk⟩
  have HI := Hid.mk hi
  clear hi
  go_wp2_with fail
  all_goals
    go_ret
    exact ⟨ret_bool (by rw [← HI.out]), hk⟩
theorem cat_one (x y : Value) : (#[x] : Array Value) ++ #[y] = #[x, y] := rfl
set_option maxRecDepth 100000 in
set_option maxHeartbeats 2000000 in
theorem hasOp_calls {g co : Nat} (n : Nat) : ∀ (e : E) (A : Option Addr) (c : Nat) (w : World) (M : Heap), ExV M e A c → Mem w M → e.size ≤ n → n ≤ 1099511627776 → cellM M ⟨g, 0, none⟩ = some (.int .i64 15) → cellM M ⟨g, 1, none⟩ = some (.int .i64 13) →
    Calls Tryz.prog 36 #[.agg #[.int .i64 e.op, .string (bs e.s), .slice A e.l.length c], .slice (some ⟨g, 0, none⟩) 2 co] w fun en w' => en = .returned (.bool (e.has 15 13)) ∧ Kp [] w w' := by
  induction n with
  | zero => intro e A c w M h hM hn; have := size_pos e; omega
  | succ n ih =>
    intro e A c w M h hM hn hbig g0 g1
    have HS := Hid.mk (E.has_eq 15 13 e)
    have hn1 : sizes e.l ≤ n := by rw [E.size_eq] at hn; omega
    have hll := length_sizes e.l
    clear hn
    have hM2 := (hM.alloc (.cells #[.int .i64 e.op, .string (bs e.s), .slice A e.l.length c] 24)).alloc (.cells #[.slice (some ⟨g, 0, none⟩) 2 co] 60)
    have hx1 := Box.new (hM.alloc (.cells #[.int .i64 e.op, .string (bs e.s), .slice A e.l.length c] 24)) #[.slice (some ⟨g, 0, none⟩) 2 co] 60
    have hsz : (w.alloc (.cells #[.int .i64 e.op, .string (bs e.s), .slice A e.l.length c] 24)).heap.size = w.heap.size + 1 := by simp
    rw [hsz] at hx1
    have hK2 := ((Kp.refl [] w).alloc (.cells #[.int .i64 e.op, .string (bs e.s), .slice A e.l.length c] 24)).alloc (.cells #[.slice (some ⟨g, 0, none⟩) 2 co] 60)
    have HCI := Hid.mk (fun wx (hm : Mem wx M) => CInt_calls (xs := [15, 13]) (g := g) (o := 0) (c := co) (v := e.op) wx (by simp) (fun j hj => by
      match j, hj with
      | 0, _ => exact hm.cell g0
      | 1, _ => exact hm.cell g1))
    have HCF := Hid.mk (ContainsFuncEC_calls (K := 77) (p := E.has 15 13) (cap := #[.pointer (some ⟨w.heap.size + 1, 0, none⟩)]) (w0 := (w.alloc (.cells #[.int .i64 e.op, .string (bs e.s), .slice A e.l.length c] 24)).alloc (.cells #[.slice (some ⟨g, 0, none⟩) 2 co] 60)) h (fun v w => by kernel_rfl) (fun x A' c' wx hx hxv hm hk => by
      rw [cat_one]
      have q := (hx1.same hk (by simp)).cell 0
      have q : wx.cell? ⟨w.heap.size + 1, 0, none⟩ = some (.slice (some ⟨g, 0, none⟩) 2 co) := q
      have hlt : w.heap.size + 1 < wx.heap.size := (hx1.same hk (by simp)).lt
      have hjs := size_mem hx
      have HM := Hid.mk (And.intro hm hxv)
      clear hm hxv hM2 hx1 hsz hK2 HCI hk
      go_enter Tryz.func77, Tryz.ntmps77
      go_wp2_with fail
      refine (ih x A' c' _ M HM.out.2 (HM.out.1.alloc _) (by omega) (by omega) g0 g1).mono ?_
      rintro en w2 ⟨rfl, hk2⟩
      go_wp2_with fail
      go_ret
      exact ⟨rfl, ((Kp.refl [] wx).alloc _).trans hk2⟩) hM2 (by omega))
    have HH := Hid.mk (And.intro hM2 hK2)
    clear hM2 hK2 hx1 hsz g0 g1 hM h ih
    cases hb : [15, 13].any (fun x => e.op == x) with
    | true =>
      have HR := Hid.mk (show e.has 15 13 = true by
        rw [HS.out]
        simp only [List.any_cons, List.any_nil, Bool.or_false] at hb
        rw [hb]; rfl)
      rw [hb] at HCI
      clear HS hb HCF
      go_enter Tryz.func36, Tryz.ntmps36
      go_wp2_with fail
      refine (HCI.out _ HH.out.1).mono ?_
      rintro en w2 ⟨rfl, rfl⟩
      go_wp2_with fail
      go_ret
      exact ⟨ret_bool HR.out.symm, HH.out.2⟩
    | false =>
      have HR := Hid.mk (show e.has 15 13 = e.l.any (E.has 15 13) by
        rw [HS.out]
        simp only [List.any_cons, List.any_nil, Bool.or_false] at hb
        rw [hb]; rfl)
      rw [hb] at HCI
      clear HS hb
      go_enter Tryz.func36, Tryz.ntmps36
      go_wp2_with fail
      refine (HCI.out _ HH.out.1).mono ?_
      rintro en w2 ⟨rfl, rfl⟩
      go_wp2_with fail
      refine HCF.out.mono ?_
      rintro en w2 ⟨rfl, hk2⟩
      go_wp2_with fail
      go_ret
      exact ⟨ret_bool HR.out.symm, HH.out.2.trans hk2⟩
end Go.Proofs.YtgdnhlckodhhgaaGreatDoor

/-
  Whether all symbols of an expression are in an alphabet, for all expressions.
-/
namespace Go.Proofs.YtgdnhlckodhhgaaGreatDoor
open Go.RowKit
set_option linter.unusedVariables false
set_option linter.unusedSimpArgs false
theorem nodup_same {α : Type} {l : List MapEntry} {f : MapEntry → α} (h : (l.map f).Nodup) {x y : MapEntry} (hx : x ∈ l) (hy : y ∈ l) (he : f x = f y) : x = y := by
  induction l with
  | nil => cases hx
  | cons a l ih =>
    simp only [List.map_cons, List.nodup_cons] at h
    rcases List.mem_cons.1 hx with hx | hx
    · rcases List.mem_cons.1 hy with hy | hy
      · rw [hx, hy]
      · have hm : f y ∈ l.map f := List.mem_map_of_mem hy
        rw [← he, hx] at hm
        exact absurd hm h.1
    · rcases List.mem_cons.1 hy with hy | hy
      · have hm : f x ∈ l.map f := List.mem_map_of_mem hx
        rw [he, hy] at hm
        exact absurd hm h.1
      · exact ih h.2 hx hy
theorem push_has (seen : Array Nat) (a b : Nat) : (seen.push b).contains a = (seen.contains a || a == b) := by
  rw [Bool.eq_iff_iff]; simp
theorem symss_mem {x : E} {t : Bs} (ht : t ∈ x.syms) : ∀ l : List E, x ∈ l → t ∈ symss l := by
  intro l
  induction l with
  | nil => intro hx; cases hx
  | cons a l ih =>
    intro hx
    rw [symss, List.mem_append]
    rcases List.mem_cons.1 hx with rfl | hx
    · exact .inl ht
    · exact .inr (ih hx)
theorem left_some {es : Array MapEntry} {seen : Array Nat} {y : MapEntry} (hy : y ∈ es.toList) (hc : seen.contains y.born = false) : 0 < (leftOf es seen).size := by
  unfold leftOf
  have : y ∈ (Array.filter (fun e => !seen.contains e.born) es) := by
    rw [Array.mem_filter]
    exact ⟨by simpa using hy, by rw [hc]; rfl⟩
  exact Array.size_pos_of_mem this
theorem Syms_of {S : Bs → Prop} (n : Nat) : ∀ (e : E), e.size ≤ n → e.wide ≤ 1099511627776 → (∀ s ∈ e.syms, S s) → Syms S n e := by
  induction n with
  | zero => intro e he; have := size_pos e; omega
  | succ n ih =>
    intro e he hw hs
    have hsz := E.size_eq e
    have hwe := E.wide_eq e
    refine ⟨fun h0 => ⟨hs _ (by rw [E.syms_eq, if_pos h0]; simp), by omega⟩, fun x hx => ?_⟩
    have h1 := size_mem hx
    have h2 := wide_mem hx
    refine ih x (by omega) (by omega) (fun s hss => hs s ?_)
    rw [E.syms_eq, List.mem_append]
    exact .inr (symss_mem hss _ hx)
set_option maxRecDepth 100000 in
set_option maxHeartbeats 4000000 in
theorem eknown_no {ss : List Bs} {M : Heap} {A Ae : Option Addr} {c ce : Nat} {e : E} {t : Bs} (ht : t ∈ e.syms) (hbad : bsF ss t = false) (he : ExV M e Ae ce) (hwd : e.wide ≤ 1099511627776) (hsz : e.size ≤ 1000000) (h : WsM M A ss) (hl : ss.length ≤ 1000000) (w : World) (hM : Mem w M) :
    Calls Tryz.prog 35 #[.agg #[.int .i64 e.op, .string (bs e.s), .slice Ae e.l.length ce], .slice A ss.length c] w fun en w' => en = .returned (.bool false) ∧ Kp [] w w' := by
  have hmm := @run_makeMap Tryz.prog
  have hb0 := (Box.new hM #[.int .i64 e.op, .string (bs e.s), .slice Ae e.l.length ce] 24).alloc (.map #[] 0)
  obtain ⟨⟨p0, p1, p2⟩, _, _, _⟩ := hb0.three
  have hsz1 : (w.alloc (.cells #[.int .i64 e.op, .string (bs e.s), .slice Ae e.l.length ce] 24)).heap.size = w.heap.size + 1 := by simp
  have hm1 := Blk.new (hM.alloc (.cells #[.int .i64 e.op, .string (bs e.s), .slice Ae e.l.length ce] 24)) (.map #[] 0)
  rw [hsz1] at hm1
  have hM1 := (hM.alloc (.cells #[.int .i64 e.op, .string (bs e.s), .slice Ae e.l.length ce] 24)).alloc (.map #[] 0)
  have hK1 := ((Kp.refl [] w).alloc (.cells #[.int .i64 e.op, .string (bs e.s), .slice Ae e.l.length ce] 24)).alloc (.map #[] 0)
  have HH := Hid.mk (And.intro hm1 (And.intro hM1 hK1))
  have HG := Hid.mk (And.intro ht (And.intro he h))
  have HBD := Hid.mk hbad
  clear hm1 hM1 hK1 hb0 ht he h hbad
  go_enter Tryz.func35, Tryz.ntmps35
  go_wp2_with fail
  refine (gatherX_calls (gm := w.heap.size + 1) 1000000 e Ae ce _ [] HG.out.2.1 hwd hsz (Nat.le_refl _) HH.out.2.1 ⟨#[], 0, HH.out.1, ⟨[], rfl, List.nodup_nil, fun s => Iff.rfl, by simp, by simp, by simp⟩⟩).mono ?_
  rintro en w2 ⟨rfl, hM2, ⟨es, clock, hm2, hg2⟩, hk2⟩
  rw [List.nil_append] at hg2
  have hK2 : Kp [] w w2 := HH.out.2.2.inner hk2 (by simp)
  have hrg := run_range_map (P := Tryz.prog) w2 73 9 4 (w.heap.size + 1) es clock Tryz.underlying73 hm2.blk
  have hlt2 := hm2.lt
  have hbi := Blk.new hM2 (.mapIter (some (w.heap.size + 1)) clock #[] clock)
  have HJ := Hid.mk (And.intro (hm2.alloc (.mapIter (some (w.heap.size + 1)) clock #[] clock)) (And.intro hbi (And.intro (hM2.alloc (.mapIter (some (w.heap.size + 1)) clock #[] clock)) (hK2.alloc (.mapIter (some (w.heap.size + 1)) clock #[] clock)))))
  have HBAD : Hid (∃ y, y ∈ es.toList ∧ y.key = .string (bs t)) := Hid.mk (by
    obtain ⟨ks, h1, _, h3, _⟩ := id hg2
    have : Value.string (bs t) ∈ ks.map (fun s => Value.string (bs s)) := List.mem_map_of_mem ((h3 t).2 HG.out.1)
    rw [← h1, List.mem_map] at this
    exact this)
  have HGS := Hid.mk hg2
  have hws := hK2.size
  clear hM2 hm2 hg2 hk2 hbi hmm p0 p1 p2 HH hK2
  go_wp2_with fail
  generalize hib : w2.heap.size = ib at *
  clear hrg
  go_loopg [] ((leftOf es #[]).size + 1) (fun kk wr => ∃ seen, Blk wr M (w.heap.size + 1) (.map es clock) ∧ Blk wr M ib (.mapIter (some (w.heap.size + 1)) clock seen clock) ∧ (leftOf es seen).size < kk ∧ Mem wr M ∧ Kp [] w wr ∧ Hid (∃ y, y ∈ es.toList ∧ y.key = .string (bs t) ∧ seen.contains y.born = false))
  case atStart => exact ⟨#[], HJ.out.1, HJ.out.2.1, by omega, HJ.out.2.2.1, HJ.out.2.2.2, Hid.mk (by obtain ⟨y, h1, h2⟩ := HBAD.out; exact ⟨y, h1, h2, by simp⟩)⟩
  case round =>
    obtain ⟨seen, hbm, hbi, hleft, hM', hK, HY⟩ := hrel
    rcases run_next (P := Tryz.prog) 0 (w.heap.size + 1) clock clock ib seen es clock hbm.blk hbi.blk (fun x hx => by obtain ⟨_, _, _, _, _, h5, _⟩ := HGS.out; exact h5 x hx) (Nat.le_refl _) with ⟨h0, hrun⟩ | ⟨x, hem, w5, hk5, hbi5, hsz5, hrun⟩
    · exfalso
      obtain ⟨y, h1, _, h3⟩ := HY.out
      have := left_some h1 h3
      omega
    · obtain ⟨hxe, _⟩ := mem_left hem
      obtain ⟨s, hsX, hsl, hkey⟩ := HGS.out.key hxe
      have hnd : (es.toList.map (·.born)).Nodup := by obtain ⟨_, _, _, _, _, _, h6⟩ := HGS.out; exact h6
      have hbm5 := hbm.same hk5 (by simp; omega)
      have hM5 := hM'.kp hk5 (by simpa using hbi.out)
      have hen := run_entry (P := Tryz.prog) (w.heap.size + 1) clock ib seen es clock x hbm5.blk hbi5 hxe hnd
      have hshr := left_shrinks es seen x hem
      have HKY := Hid.mk hkey
      rw [hkey] at hrun hen
      have HBS := Hid.mk (BinarySearch_calls (c := c) HG.out.2.2 hl s w5 hM5)
      have HZ := Hid.mk (And.intro hbm5 (And.intro hbi5 (And.intro hbi.out (And.intro hM5 (hK.inner hk5 (by simp; omega))))))
      have HX := Hid.mk (And.intro hxe hnd)
      clear hbm hbi hM' hK hbm5 hbi5 hM5 hk5 hkey hsX hnd hxe
      cases hb : bsF ss s with
      | false =>
        rw [hb] at HBS
        clear hb
        go_wp2_with (go_at_call 74; refine HBS.out.mono ?_; rintro e w' ⟨rfl, rfl⟩)
        go_ret
        exact ⟨rfl, HZ.out.2.2.2.2⟩
      | true =>
        have HBT := Hid.mk hb
        rw [hb] at HBS
        clear hb
        go_wp2_with (go_at_call 74; refine HBS.out.mono ?_; rintro e w' ⟨rfl, rfl⟩)
        go_roundg ((leftOf es (seen.push x.born)).size + 1)
        case measure => omega
        case rel => exact ⟨seen.push x.born, HZ.out.1, ⟨HZ.out.2.1, HZ.out.2.2.1⟩, by omega, HZ.out.2.2.2.1, HZ.out.2.2.2.2, Hid.mk (by
          obtain ⟨y, h1, h2, h3⟩ := HY.out
          refine ⟨y, h1, h2, ?_⟩
          rw [push_has, h3, Bool.false_or]
          cases hbb : (y.born == x.born) with
          | false => rfl
          | true =>
            exfalso
            have hyx := nodup_same HX.out.2 h1 HX.out.1 (by simpa using hbb)
            subst hyx
            have := h2.symm.trans HKY.out
            injection this with this
            have := bs_inj this
            subst this
            have h4 := HBT.out
            rw [HBD.out] at h4
            cases h4)⟩
theorem eknown_all {ss : List Bs} {M : Heap} {A Ae : Option Addr} {c ce : Nat} {e : E} (he : ExV M e Ae ce) (hwd : e.wide ≤ 1099511627776) (hsz : e.size ≤ 1000000) (h : WsM M A ss) (hl : ss.length ≤ 1000000) (w : World) (hM : Mem w M) :
    Calls Tryz.prog 35 #[.agg #[.int .i64 e.op, .string (bs e.s), .slice Ae e.l.length ce], .slice A ss.length c] w fun en w' => en = .returned (.bool (e.syms.all (bsF ss))) ∧ Kp [] w w' := by
  cases hb : e.syms.all (bsF ss) with
  | true => exact eknown_calls (Syms_of e.size e (Nat.le_refl _) hwd (fun s hs => List.all_eq_true.1 hb s hs)) he (by have := length_sizes e.l; have := E.size_eq e; omega) hsz h hl w hM
  | false =>
    rw [List.all_eq_false] at hb
    obtain ⟨t, ht, hbt⟩ := hb
    exact eknown_no ht (by simpa using hbt) he hwd hsz h hl w hM
end Go.Proofs.YtgdnhlckodhhgaaGreatDoor

/-
  expr.Holds, for all expressions, alphabets and words.
-/
namespace Go.Proofs.YtgdnhlckodhhgaaGreatDoor
open Go.RowKit
set_option linter.unusedVariables false
set_option linter.unusedSimpArgs false
/-- What Holds answers. -/
def holdsR (e : E) (ss ws : List Bs) : Bool × Int :=
  if verdict e ≠ 0 then (false, verdict e) else if aErr ss ≠ 0 then (false, aErr ss) else if wordErr ws ≠ 0 then (false, wordErr ws)
  else if e.syms.all (bsF ss) = false then (false, 4) else if 10 < ws.length ∧ e.has 15 13 = true then (false, 3) else (ws.all (bsF ss) && rev e ws, 0)
def HEnd (w : World) (r : Bool × Int) (en : Ending) (w' : World) : Prop := en = .returned (.tuple #[.bool r.1, .int .i64 r.2]) ∧ Kp [] w w'
theorem wordK_all_some {ss ws : List Bs} (h : ws.all (bsF ss) = true) : wordK ss ws = some (wkGo ss ws) := wordK_all (fun x hx => List.all_eq_true.1 h x hx)
theorem wordK_all_none {ss ws : List Bs} (h : ws.all (bsF ss) = false) : wordK ss ws = none := by
  rw [List.all_eq_false] at h
  obtain ⟨x, hx, hb⟩ := h
  exact wordK_none hx (by simpa using hb)
--WALK
theorem Word_gen {ss ws : List Bs} {M : Heap} {A B : Option Addr} {c d : Nat} (h : WsM M A ss) (hl : ss.length ≤ 1000000) (hw : WsM M B ws) (hlw : ws.length ≤ 1000000) (w : World) (hM : Mem w M) :
    Calls Tryz.prog 34 #[.slice A ss.length c, .slice B ws.length d] w fun e w' => Kp [] w w' ∧ Mem w' M ∧ ∃ v, e = .returned (.tuple #[v, .bool (ws.all (bsF ss))]) ∧ (ws.all (bsF ss) = true → ∃ g cap, v = .slice (some ⟨g, 0, none⟩) (wkGo ss ws).length cap ∧ Sl w' M 3 1 g (wkGo ss ws).length cap (ints (wkGo ss ws)) ∧ w.heap.size ≤ g) := by
  have H := Word_calls (c := c) (d := d) h hl hw hlw w hM
  cases hb : ws.all (bsF ss) with
  | false =>
    rw [wordK_all_none hb] at H
    exact H.mono (fun e w' h => ⟨h.1, h.2.1, _, h.2.2, fun h => by cases h⟩)
  | true =>
    rw [wordK_all_some hb] at H
    exact H.mono (fun e w' h => by obtain ⟨h1, h2, g, cap, h3, h4, h5⟩ := h; exact ⟨h1, h2, _, h3, fun _ => ⟨g, cap, rfl, h4, h5⟩⟩)
set_option maxRecDepth 100000 in
set_option maxHeartbeats 8000000 in
theorem eHolds_bad {e : E} {ss ws : List Bs} {M : Heap} {A Aw As : Option Addr} {c cs cw : Nat} (he : ExV M e A c) (hsz : e.size ≤ 1099511627776) (hwd : e.wide ≤ 1099511627776) (hss : WsM M As ss) (hcs : ss.length ≤ cs) (hls : ss.length ≤ 1099511627776) (hsl : ∀ s, s ∈ ss → s.length ≤ 1099511627776) (hws : WsM M Aw ws) (hcw : ws.length ≤ cw) (hlw : ws.length ≤ 1099511627776) (hwl : ∀ s, s ∈ ws → s.length ≤ 1099511627776) (hbad : verdict e ≠ 0 ∨ aErr ss ≠ 0 ∨ wordErr ws ≠ 0) (w : World) (hM : Mem w M) :
    Calls Tryz.prog 10 #[.agg #[.int .i64 e.op, .string (bs e.s), .slice A e.l.length c], .slice As ss.length cs, .slice Aw ws.length cw] w (HEnd w (holdsR e ss ws)) := by
  have hb0 := Box.new hM #[.int .i64 e.op, .string (bs e.s), .slice A e.l.length c] 24
  have hM0 := hM.alloc (.cells #[.int .i64 e.op, .string (bs e.s), .slice A e.l.length c] 24)
  have HM := Hid.mk (And.intro hM (And.intro hM0 hb0))
  obtain ⟨⟨p0, p1, p2⟩, _, _, _⟩ := hb0.three
  have HV := Hid.mk (Validate_calls e A c (w.alloc (.cells #[.int .i64 e.op, .string (bs e.s), .slice A e.l.length c] 24)) M he hM0 hsz hwd)
  have HA := Hid.mk (fun w (hM : Mem w M) => sValidA_calls hsl hls hss hcs w hM)
  have HW := Hid.mk (fun w (hM : Mem w M) => ValidateWord_calls ws Aw cw M w hM hws hwl hlw hcw)
  clear hb0 hM0 he hsz hwd hss hcs hls hsl hws hcw hlw hwl hM
  by_cases hv : verdict e = 0
  · by_cases ha : aErr ss = 0
    · have hw0 : wordErr ws ≠ 0 := by rcases hbad with h | h | h <;> first | exact h | exact absurd hv h | exact absurd ha h
      have HR : Hid (holdsR e ss ws = (false, wordErr ws)) := Hid.mk (by unfold holdsR; rw [if_neg (by simp [hv]), if_neg (by simp [ha]), if_pos hw0])
      rw [hv] at HV
      rw [ha] at HA
      have hw1 : (wordErr ws != 0) = true := by simpa using hw0
      generalize wordErr ws = x at *
      clear hv ha hbad hw0
      go_enter Tryz.func10, Tryz.ntmps10
      go_wp2_with fail
      refine HV.out.mono ?_
      rintro en w2 ⟨rfl, hk2⟩
      have hM2 := HM.out.2.1.kp hk2 (by simp)
      have HA2 := Hid.mk (HA.out w2 hM2)
      have HW2 := Hid.mk (HW.out w2 hM2)
      have H2 := Hid.mk hk2
      clear p0 p1 p2 hM2 hk2
      go_wp2_with (first | (go_at_call 32; refine HA2.out.mono ?_; rintro e w' ⟨rfl, rfl⟩) | (go_at_call 33; refine HW2.out.mono ?_; rintro e w' ⟨rfl, rfl⟩))
      go_ret2
      exact ⟨by rw [HR.out]; rfl, ((Kp.refl [] w).alloc _).trans H2.out⟩
    · have HR : Hid (holdsR e ss ws = (false, aErr ss)) := Hid.mk (by unfold holdsR; rw [if_neg (by simp [hv]), if_pos ha])
      rw [hv] at HV
      have ha1 : (aErr ss != 0) = true := by simpa using ha
      generalize aErr ss = x at *
      clear hv ha hbad
      go_enter Tryz.func10, Tryz.ntmps10
      go_wp2_with fail
      refine HV.out.mono ?_
      rintro en w2 ⟨rfl, hk2⟩
      have hM2 := HM.out.2.1.kp hk2 (by simp)
      have HA2 := Hid.mk (HA.out w2 hM2)
      have H2 := Hid.mk hk2
      clear p0 p1 p2 hM2 hk2
      go_wp2_with (first | (go_at_call 32; refine HA2.out.mono ?_; rintro e w' ⟨rfl, rfl⟩) | fail)
      go_ret2
      exact ⟨by rw [HR.out]; rfl, ((Kp.refl [] w).alloc _).trans H2.out⟩
  · have HR : Hid (holdsR e ss ws = (false, verdict e)) := Hid.mk (by unfold holdsR; rw [if_pos hv])
    have hv1 : (verdict e != 0) = true := by simpa using hv
    generalize verdict e = x at *
    clear hv hbad
    go_enter Tryz.func10, Tryz.ntmps10
    go_wp2_with fail
    refine HV.out.mono ?_
    rintro en w2 ⟨rfl, hk2⟩
    have H2 := Hid.mk hk2
    clear p0 p1 p2 hk2
    go_wp2_with fail
    go_ret2
    exact ⟨by rw [HR.out]; rfl, ((Kp.refl [] w).alloc _).trans H2.out⟩
set_option maxRecDepth 100000 in
set_option maxHeartbeats 8000000 in
theorem eHolds_good {e : E} {ss ws : List Bs} {M : Heap} {A Aw As : Option Addr} {c cs cw : Nat} (he : ExV M e A c) (hsz : e.size ≤ 1099511627776) (hwd : e.wide ≤ 1099511627776) (hss : WsM M As ss) (hcs : ss.length ≤ cs) (hls : ss.length ≤ 1099511627776) (hsl : ∀ s, s ∈ ss → s.length ≤ 1099511627776) (hws : WsM M Aw ws) (hcw : ws.length ≤ cw) (hlw : ws.length ≤ 1099511627776) (hwl : ∀ s, s ∈ ws → s.length ≤ 1099511627776) (hv : verdict e = 0) (ha : aErr ss = 0) (hw0 : wordErr ws = 0) (w : World) (hM : Mem w M) :
    Calls Tryz.prog 10 #[.agg #[.int .i64 e.op, .string (bs e.s), .slice A e.l.length c], .slice As ss.length cs, .slice Aw ws.length cw] w (HEnd w (holdsR e ss ws)) := by
  have hb0 := Box.new hM #[.int .i64 e.op, .string (bs e.s), .slice A e.l.length c] 24
  have hM0 := hM.alloc (.cells #[.int .i64 e.op, .string (bs e.s), .slice A e.l.length c] 24)
  have HM := Hid.mk (And.intro hM (And.intro hM0 hb0))
  obtain ⟨⟨p0, p1, p2⟩, _, _, _⟩ := hb0.three
  have HV := Hid.mk (Validate_calls e A c (w.alloc (.cells #[.int .i64 e.op, .string (bs e.s), .slice A e.l.length c] 24)) M he hM0 hsz hwd)
  have HA := Hid.mk (fun w (hM : Mem w M) => sValidA_calls hsl hls hss hcs w hM)
  have HW := Hid.mk (fun w (hM : Mem w M) => ValidateWord_calls ws Aw cw M w hM hws hwl hlw hcw)
  rw [hv] at HV
  rw [ha] at HA
  rw [hw0] at HW
  have HR : Hid (holdsR e ss ws = if e.syms.all (bsF ss) = false then (false, 4) else if 10 < ws.length ∧ e.has 15 13 = true then (false, 3) else (ws.all (bsF ss) && rev e ws, 0)) := Hid.mk (by
    unfold holdsR
    rw [if_neg (by simp [hv]), if_neg (by simp [ha]), if_neg (by simp [hw0])])
  have hal := aErr_alpha ha
  have hl40 := hal.1
  have hw60 : ws.length ≤ 60 := by
    rw [wordErr] at hw0
    split at hw0
    · cases hw0
    · rename_i h; omega
  have hsz : e.size ≤ 40 ∧ e.nest ≤ 12 ∧ e.right = true := by
    rw [verdict] at hv
    split at hv
    · cases hv
    · rename_i h
      split at hv
      · rename_i h2; exact ⟨by omega, by omega, h2⟩
      · cases hv
  obtain ⟨hsz, hnest, hright⟩ := hsz
  have hls2 := length_sizes e.l
  have hes := E.size_eq e
  have HG := Hid.mk (And.intro hnest hright)
  have HWd := Hid.mk (fun w (hM : Mem w M) => Word_gen (c := cs) (d := cw) hss (by omega) hws (by omega) w hM)
  have HK := Hid.mk (fun w (hM : Mem w M) => eknown_all (c := cs) he hwd (by omega) hss (by omega) w hM)
  have HNd := Hid.mk (fun ga gm w (hM : Mem w M) (hsy : Syms (fun s => bsF ss s = true) e.size e) hx => Node_calls (ss := ss) (As := As) (cs := cs) (ga := ga) (gm := gm) hl40 e.size e A c 0 w M he hsy (by omega) (by omega) hss hM hx)
  have HOP := Hid.mk (fun g w (M1 : Heap) (hM : Mem w M1) (hx : ExV M1 e A c) => hasOp_calls (g := g) (co := 2) e.size e A c w M1 hx hM (Nat.le_refl _) (by omega))
  have HE := Hid.mk (And.intro he hwd)
  clear hb0 hM0 he hss hcs hls hsl hws hcw hlw hwl hM hv ha hw0 hal hwd hnest hright
  go_enter Tryz.func10, Tryz.ntmps10
  go_wp2_with fail
  refine HV.out.mono ?_
  rintro en w2 ⟨rfl, hk2⟩
  have hM2 := HM.out.2.1.kp hk2 (by simp)
  have hb2 := HM.out.2.2.same hk2 (by simp)
  have HA2 := Hid.mk (HA.out w2 hM2)
  have HW2 := Hid.mk (HW.out w2 hM2)
  have HWd2 := Hid.mk (HWd.out w2 hM2)
  have H2 := Hid.mk (And.intro hM2 (And.intro hb2 hk2))
  clear p0 p1 p2 hM2 hb2 hk2
  go_wp2_with (first | (go_at_call 32; refine HA2.out.mono ?_; rintro e w' ⟨rfl, rfl⟩) | (go_at_call 33; refine HW2.out.mono ?_; rintro e w' ⟨rfl, rfl⟩))
  refine HWd2.out.mono ?_
  rintro en w3 ⟨hk3, hM3, v, rfl, hsl3⟩
  have hb3 := H2.out.2.1.same hk3 (by simp)
  obtain ⟨⟨p0, p1, p2⟩, _, _, _⟩ := hb3.three
  have H3 := Hid.mk (And.intro hM3 (And.intro hb3 (And.intro hk3 hsl3)))
  clear hM3 hb3 hk3 hsl3
  cases hkn : e.syms.all (bsF ss) with
  | false =>
    rw [hkn] at HK
    have HR2 := Hid.mk (HR.out.trans (if_pos hkn))
    clear hkn HR
    go_wp2_with fail
    refine (HK.out w3 H3.out.1).mono ?_
    rintro en w4 ⟨rfl, hk4⟩
    have H4 := Hid.mk hk4
    clear hk4
    go_wp2_with fail
    go_ret2
    exact ⟨by rw [HR2.out]; rfl, ((((Kp.refl [] w).alloc _).trans H2.out.2.2).trans H3.out.2.2.1).trans H4.out⟩
  | true =>
    rw [hkn] at HK
    have HKN := Hid.mk (fun s hs => List.all_eq_true.1 hkn s hs)
    have HR2 := Hid.mk (HR.out.trans (if_neg (by rw [hkn]; simp)))
    clear hkn HR
    go_wp2_with fail
    refine (HK.out w3 H3.out.1).mono ?_
    rintro en w4 ⟨rfl, hk4⟩
    have hM4 := H3.out.1.kp hk4 (by simp)
    have hb4 := H3.out.2.1.same hk4 (by simp)
    have H4 := Hid.mk (And.intro hM4 (And.intro hb4 hk4))
    clear p0 p1 p2
    obtain ⟨⟨p0, p1, p2⟩, _, _, _⟩ := hb4.three
    clear hM4 hb4 hk4
    by_cases h10 : 10 < ws.length
    · have h10' : (10 : Int) < (ws.length : Int) := by omega
      have hMr := (H4.out.1.alloc (.cells #[.int .i64 15, .int .i64 13] 3)).put (heap_alloc_new w4 (.cells #[.int .i64 15, .int .i64 13] 3))
      have hxr := HE.out.1.ext (Ext.put (o := .cells #[.int .i64 15, .int .i64 13] 3) (Nat.le_refl _) H4.out.1.new)
      have HO := Hid.mk (HOP.out w4.heap.size _ _ hMr hxr (by simp [cellM, Heap.put_same]) (by simp [cellM, Heap.put_same]))
      clear hMr hxr
      cases hh : e.has 15 13 with
      | true =>
        have HR3 := Hid.mk (HR2.out.trans (if_pos ⟨h10, hh⟩))
        rw [hh] at HO
        clear HR2 hh h10
        go_wp2_with fail
        refine HO.out.mono ?_
        rintro en w5 ⟨rfl, hk5⟩
        have H5 := Hid.mk hk5
        clear hk5 p0 p1 p2
        go_wp2_with fail
        go_ret2
        exact ⟨by rw [HR3.out]; rfl, ((((((Kp.refl [] w).alloc _).trans H2.out.2.2).trans H3.out.2.2.1).trans H4.out.2.2).alloc _).trans H5.out⟩
      | false =>
        have HR3 := Hid.mk (HR2.out.trans (if_neg (fun h => by rw [hh] at h; cases h.2)))
        have HHAS := Hid.mk (show e.has 15 13 = true → 60 ≤ 10 by rw [hh]; intro h; cases h)
        rw [hh] at HO
        clear HR2 hh h10
        go_wp2_with fail
        refine HO.out.mono ?_
        rintro en w5 ⟨rfl, hk5⟩
        have hk45 : Kp [] w4 w5 := ((Kp.refl [] w4).alloc _).trans hk5
        have HC := Hid.mk (And.intro (H4.out.1.kp hk45 (by simp)) (And.intro (H4.out.2.1.same hk45 (by simp)) (H4.out.2.2.trans hk45)))
        clear hk5 hk45 p0 p1 p2
        obtain ⟨⟨p0, p1, p2⟩, _, _, _⟩ := HC.out.2.1.three
        cases hall : ws.all (bsF ss) with
        | false =>
          have HR4 := Hid.mk (show holdsR e ss ws = (false, 0) by rw [HR3.out, hall]; rfl)
          clear hall
          go_wp2_with fail
          go_ret2
          exact ⟨by rw [HR4.out]; rfl, ((((Kp.refl [] w).alloc _).trans H2.out.2.2).trans H3.out.2.2.1).trans HC.out.2.2⟩
        | true =>
          have HALL := Hid.mk (show ∀ x ∈ ws, bsF ss x = true from fun x hx => List.all_eq_true.1 hall x hx)
          obtain ⟨g, cap, rfl, hsl3, hg3⟩ := H3.out.2.2.2 hall
          have HS3 := Hid.mk (And.intro hsl3 hg3)
          have hkl : (wkGo ss ws).length = ws.length := by simp [wkGo]
          have HK256 : Hid (∀ k ∈ wkGo ss ws, k < 256) := Hid.mk (by
            intro k hk
            simp only [wkGo, List.mem_map] at hk
            obtain ⟨x, hx, rfl⟩ := hk
            have := bsF_lt (HALL.out x hx)
            omega)
          have HR4 := Hid.mk (show holdsR e ss ws = (ev (mkN ss 0 e).1 (toBs (wkGo ss ws)), 0) by
            rw [HR3.out, hall, word_symF, ev_rev (w := ws) hl40 HALL.out e.size e 0 (Nat.le_refl _) HKN.out ws (List.Sublist.refl _)]; rfl)
          have HSY := Hid.mk (Syms_of e.size e (Nat.le_refl _) HE.out.2 HKN.out)
          obtain ⟨V, _, hnu⟩ := nums_ex ss e.nest e 0 (fun _ _ => false) (Nat.le_refl _) (by omega)
          have HNU := Hid.mk (And.intro hnu (oka_of ss (L := 60) e.nest e 0 (Nat.le_refl _) (by omega) HG.out.2 HHAS.out))
          clear hall hsl3 hg3 hnu
          go_wp2_with fail
          refine (New_calls w5).mono ?_
          rintro en w6 ⟨rfl, hw6⟩
          have hM6 : Mem w6 M := by rw [hw6]; exact (HC.out.1.alloc _).alloc _
          have hBa : Box w6 M (w5.heap.size + 1) #[.map (some w5.heap.size), .int .i64 ((0 : Nat) : Int)] 115 := by
            have := Box.new (HC.out.1.alloc (.map #[] 0)) #[.map (some w5.heap.size), .int .i64 ((0 : Nat) : Int)] 115
            rw [hw6]
            simpa using this
          have hBm : Blk w6 M w5.heap.size (.map #[] 0) := by rw [hw6]; exact (Blk.new HC.out.1 _).alloc _
          have hk6 : Kp [] w5 w6 := by rw [hw6]; exact ((Kp.refl _ _).alloc _).alloc _
          have hb6 := HC.out.2.1.same hk6 (by simp)
          clear p0 p1 p2
          obtain ⟨⟨r0, r1, r2⟩, _, _, _⟩ := hb6.three
          have H6 := Hid.mk (And.intro hM6 (And.intro hBa (And.intro hBm hk6)))
          have hlt6 := hBa.lt
          clear hM6 hBa hBm hk6 hb6 hw6
          go_wp2_with fail
          refine (HNd.out _ _ w6 H6.out.1 HSY.out H6.out.2.1).mono ?_
          rintro en w7 ⟨b7, M7, rfl, hN7, hM7, hE7, hB7, hK7⟩
          have hz3 := HC.out.2.2.size
          have hz6 := H6.out.2.2.2.size
          have hl3 := HS3.out.1.lt
          have hsl7 := ((HS3.out.1.same HC.out.2.2 (by simp)).same H6.out.2.2.2 (by simp)).kp hK7 (by simp; omega) hE7 (by omega)
          have HB := Hid.mk (Bytes_calls (ks := wkGo ss ws) HK256.out (by omega) w7 hM7 hsl7)
          rw [hkl] at HB
          have hBm7 : Blk w7 M7 w5.heap.size (.map #[] 0) := ⟨(hK7.block _ (by omega) (by simp)).trans H6.out.2.2.1.blk, hE7.no H6.out.2.2.1.out (by omega)⟩
          have H7 := Hid.mk (And.intro hN7 (And.intro hM7 (And.intro hB7 (And.intro hBm7 hK7))))
          clear hN7 hM7 hE7 hB7 hK7 hsl7 hBm7 r0 r1 r2
          go_wp2_with fail
          refine HB.out.mono ?_
          rintro en w8 ⟨rfl, hk8, hM8⟩
          have HHo := Hid.mk (HoldsAll_calls (M := M7) (ga := w5.heap.size + 1) (gm := w5.heap.size) (V := V) (L := 60) (by omega) e.nest _ b7 H7.out.1 HNU.out.1 HNU.out.2 (toBs (wkGo ss ws)) w8 (by simp [toBs, hkl]; omega) hM8 ⟨_, #[], 0, H7.out.2.2.1.same hk8 (by simp), H7.out.2.2.2.1.same hk8 (by simp), fun x hx => by simp at hx, by omega⟩)
          have H8 := Hid.mk (And.intro hk8 hM8)
          clear hk8 hM8
          go_wp2_with fail
          refine HHo.out.mono ?_
          rintro en w9 ⟨rfl, hM9, hA9, hK9⟩
          have H9 := Hid.mk hK9
          clear hM9 hA9 hK9
          go_wp2_with fail
          go_ret2
          have hk4 := ((((Kp.refl [] w).alloc (.cells #[.int .i64 e.op, .string (bs e.s), .slice A e.l.length c] 24)).trans H2.out.2.2).trans H3.out.2.2.1).trans HC.out.2.2
          have hz4 := hk4.size
          exact ⟨by rw [HR4.out]; rfl, (((hk4.trans H6.out.2.2.2).inner H7.out.2.2.2.2 (by simp; omega)).trans H8.out.1).inner H9.out (by simp; omega)⟩
    · have h10' : ¬ (10 : Int) < (ws.length : Int) := by omega
      have HR3 := Hid.mk (HR2.out.trans (if_neg (fun h => h10 h.1)))
      have HHAS := Hid.mk (show e.has 15 13 = true → 10 ≤ 10 from fun _ => Nat.le_refl _)
      have HC := H4
      have hw10 : ws.length ≤ 10 := by omega
      clear HR2 h10
      cases hall : ws.all (bsF ss) with
      | false =>
        have HR4 := Hid.mk (show holdsR e ss ws = (false, 0) by rw [HR3.out, hall]; rfl)
        clear hall
        go_wp2_with fail
        go_ret2
        exact ⟨by rw [HR4.out]; rfl, ((((Kp.refl [] w).alloc _).trans H2.out.2.2).trans H3.out.2.2.1).trans HC.out.2.2⟩
      | true =>
        have HALL := Hid.mk (show ∀ x ∈ ws, bsF ss x = true from fun x hx => List.all_eq_true.1 hall x hx)
        obtain ⟨g, cap, rfl, hsl3, hg3⟩ := H3.out.2.2.2 hall
        have HS3 := Hid.mk (And.intro hsl3 hg3)
        have hkl : (wkGo ss ws).length = ws.length := by simp [wkGo]
        have HK256 : Hid (∀ k ∈ wkGo ss ws, k < 256) := Hid.mk (by
          intro k hk
          simp only [wkGo, List.mem_map] at hk
          obtain ⟨x, hx, rfl⟩ := hk
          have := bsF_lt (HALL.out x hx)
          omega)
        have HR4 := Hid.mk (show holdsR e ss ws = (ev (mkN ss 0 e).1 (toBs (wkGo ss ws)), 0) by
          rw [HR3.out, hall, word_symF, ev_rev (w := ws) hl40 HALL.out e.size e 0 (Nat.le_refl _) HKN.out ws (List.Sublist.refl _)]; rfl)
        have HSY := Hid.mk (Syms_of e.size e (Nat.le_refl _) HE.out.2 HKN.out)
        obtain ⟨V, _, hnu⟩ := nums_ex ss e.nest e 0 (fun _ _ => false) (Nat.le_refl _) (by omega)
        have HNU := Hid.mk (And.intro hnu (oka_of ss (L := 10) e.nest e 0 (Nat.le_refl _) (by omega) HG.out.2 HHAS.out))
        clear hall hsl3 hg3 hnu
        go_wp2_with fail
        refine (New_calls w4).mono ?_
        rintro en w6 ⟨rfl, hw6⟩
        have hM6 : Mem w6 M := by rw [hw6]; exact (HC.out.1.alloc _).alloc _
        have hBa : Box w6 M (w4.heap.size + 1) #[.map (some w4.heap.size), .int .i64 ((0 : Nat) : Int)] 115 := by
          have := Box.new (HC.out.1.alloc (.map #[] 0)) #[.map (some w4.heap.size), .int .i64 ((0 : Nat) : Int)] 115
          rw [hw6]
          simpa using this
        have hBm : Blk w6 M w4.heap.size (.map #[] 0) := by rw [hw6]; exact (Blk.new HC.out.1 _).alloc _
        have hk6 : Kp [] w4 w6 := by rw [hw6]; exact ((Kp.refl _ _).alloc _).alloc _
        have hb6 := HC.out.2.1.same hk6 (by simp)
        clear p0 p1 p2
        obtain ⟨⟨r0, r1, r2⟩, _, _, _⟩ := hb6.three
        have H6 := Hid.mk (And.intro hM6 (And.intro hBa (And.intro hBm hk6)))
        have hlt6 := hBa.lt
        clear hM6 hBa hBm hk6 hb6 hw6
        go_wp2_with fail
        refine (HNd.out _ _ w6 H6.out.1 HSY.out H6.out.2.1).mono ?_
        rintro en w7 ⟨b7, M7, rfl, hN7, hM7, hE7, hB7, hK7⟩
        have hz3 := HC.out.2.2.size
        have hz6 := H6.out.2.2.2.size
        have hl3 := HS3.out.1.lt
        have hsl7 := ((HS3.out.1.same HC.out.2.2 (by simp)).same H6.out.2.2.2 (by simp)).kp hK7 (by simp; omega) hE7 (by omega)
        have HB := Hid.mk (Bytes_calls (ks := wkGo ss ws) HK256.out (by omega) w7 hM7 hsl7)
        rw [hkl] at HB
        have hBm7 : Blk w7 M7 w4.heap.size (.map #[] 0) := ⟨(hK7.block _ (by omega) (by simp)).trans H6.out.2.2.1.blk, hE7.no H6.out.2.2.1.out (by omega)⟩
        have H7 := Hid.mk (And.intro hN7 (And.intro hM7 (And.intro hB7 (And.intro hBm7 hK7))))
        clear hN7 hM7 hE7 hB7 hK7 hsl7 hBm7 r0 r1 r2
        go_wp2_with fail
        refine HB.out.mono ?_
        rintro en w8 ⟨rfl, hk8, hM8⟩
        have HHo := Hid.mk (HoldsAll_calls (M := M7) (ga := w4.heap.size + 1) (gm := w4.heap.size) (V := V) (L := 10) (by omega) e.nest _ b7 H7.out.1 HNU.out.1 HNU.out.2 (toBs (wkGo ss ws)) w8 (by simp [toBs, hkl]; omega) hM8 ⟨_, #[], 0, H7.out.2.2.1.same hk8 (by simp), H7.out.2.2.2.1.same hk8 (by simp), fun x hx => by simp at hx, by omega⟩)
        have H8 := Hid.mk (And.intro hk8 hM8)
        clear hk8 hM8
        go_wp2_with fail
        refine HHo.out.mono ?_
        rintro en w9 ⟨rfl, hM9, hA9, hK9⟩
        have H9 := Hid.mk hK9
        clear hM9 hA9 hK9
        go_wp2_with fail
        go_ret2
        have hk4 := ((((Kp.refl [] w).alloc (.cells #[.int .i64 e.op, .string (bs e.s), .slice A e.l.length c] 24)).trans H2.out.2.2).trans H3.out.2.2.1).trans HC.out.2.2
        have hz4 := hk4.size
        exact ⟨by rw [HR4.out]; rfl, (((hk4.trans H6.out.2.2.2).inner H7.out.2.2.2.2 (by simp; omega)).trans H8.out.1).inner H9.out (by simp; omega)⟩
end Go.Proofs.YtgdnhlckodhhgaaGreatDoor

/-
  Alphabets: what is wrong with one, by the reference; whether a text, and all of a list, are in a list.
-/
namespace Go.Proofs.YtgdnhlckodhhgaaGreatDoor
open Go.RowKit
set_option linter.unusedVariables false
set_option linter.unusedSimpArgs false
set_option maxRecDepth 100000 in
set_option maxHeartbeats 2000000 in
theorem rIsSet_calls {ss : List Bs} {M : Heap} {A : Option Addr} {c : Nat} (hl : ss.length ≤ 1099511627776) (h : WsM M A ss) (hc : ss.length ≤ c) (w : World) (hM : Mem w M) :
    Calls Tryz.prog 88 #[.slice A ss.length c] w fun e w' => e = .returned (.bool (isSet ss)) ∧ ∃ n, w' = w.drewN n := by
  have HH := Hid.mk h
  clear h
  by_cases h0 : ss.length = 0
  · have HE : Hid (isSet ss = true) := Hid.mk (by unfold isSet; rw [h0]; rfl)
    have h1 : ¬ (1 : Int) < (ss.length : Int) := by omega
    clear h0
    go_enter Tryz.func88, Tryz.ntmps88
    go_wp2_with fail
    refine wp_loop_rounds 1 ?_
    rw [rounds_succ]
    go_wp2_with fail
    go_ret
    exact ⟨ret_bool HE.out.symm, 0, rfl⟩
  go_enter Tryz.func88, Tryz.ntmps88
  go_wp2_with fail
  go_loopg [3] (ss.length - 1) (fun kk v wr => ∃ j : Nat, j + 1 ≤ ss.length ∧ kk = ss.length - 1 - j ∧ v = .int .i64 ((j + 1 : Nat) : Int) ∧ Hid (ascTo ss j = true) ∧ ∃ n, wr = w.drewN n)
  case atStart => exact ⟨0, by omega, by simp, rfl, Hid.mk rfl, 0, rfl⟩
  case round =>
    obtain ⟨j, hj, hkk, rfl, HI, n, rfl⟩ := hrel
    by_cases hlt : j + 1 < ss.length
    · obtain ⟨bb, o, rfl, hcell⟩ := HH.out.place (by omega)
      have hMn := hM.drewN n
      have q := hM.cell (hcell (j + 1) hlt)
      have q1 := hM.cell (hcell j (by omega))
      have hyt := bs_toList ss[j + 1]
      have hxt := bs_toList ss[j]
      have HAS := Hid.mk (asc_step hlt)
      have hlt' : ((j : Int) + 1) < (ss.length : Int) := by omega
      clear hcell hMn
      cases hb : Op.bytesLess ss[j] ss[j + 1] with
      | true =>
        have HBB := Hid.mk hb
        go_wp2_with fail
        go_quiet (fail)
        go_wp2_with fail
        go_roundg (ss.length - 1 - (j + 1))
        case measure => omega
        case rel => exact ⟨j + 1, by omega, rfl, by go_num, Hid.mk (by rw [HAS.out, HI.out, HBB.out]; rfl), n + nq, by first | rfl | rw [World.drewN_drewN]⟩
      | false =>
        have HE := Hid.mk (asc_no hlt hb)
        go_wp2_with fail
        go_quiet (fail)
        go_wp2_with fail
        go_ret
        exact ⟨ret_bool HE.out.symm, n + nq, by first | rfl | rw [World.drewN_drewN]⟩
    · obtain rfl : j = ss.length - 1 := by omega
      have hlt' : ¬ (((ss.length - 1 + 1 : Nat) : Int) < (ss.length : Int)) := by omega
      have HE : Hid (isSet ss = true) := HI
      go_wp2_with fail
      go_ret
      exact ⟨ret_bool HE.out.symm, n, rfl⟩
set_option maxRecDepth 100000 in
set_option maxHeartbeats 2000000 in
theorem rValidA_calls {ss : List Bs} {M : Heap} {A : Option Addr} {c : Nat} (hs : ∀ s, s ∈ ss → s.length ≤ 1099511627776) (hl : ss.length ≤ 1099511627776) (h : WsM M A ss) (hc : ss.length ≤ c) (w : World) (hM : Mem w M) :
    Calls Tryz.prog 46 #[.slice A ss.length c] w fun e w' => e = .returned (.int .i64 (aErr ss)) ∧ ∃ n, w' = w.drewN n := by
  have HL := Hid.mk (anyLong_calls ss A c M w hM h hs hl hc)
  have HS := Hid.mk (allSymbols_calls ss A c M w hM h hs hl hc)
  have HI := Hid.mk (rIsSet_calls hl h hc w hM)
  clear hM h hs hc
  by_cases h40 : 40 < ss.length
  · have HE := Hid.mk (aErr_large h40)
    have h40' : (40 : Int) < (ss.length : Int) := by omega
    clear h40
    go_enter Tryz.func46, Tryz.ntmps46
    go_wp2_with fail
    go_ret
    exact ⟨ret_int HE.out.symm, 0, rfl⟩
  have h40' : ¬ (40 : Int) < (ss.length : Int) := by omega
  have H40 := Hid.mk h40
  clear h40
  cases hb : ss.any long with
  | true =>
    have HE := Hid.mk (aErr_long hb)
    rw [hb] at HL
    clear hb
    go_enter Tryz.func46, Tryz.ntmps46
    go_wp2_with fail
    refine HL.out.mono ?_
    rintro e w' ⟨rfl, rfl⟩
    go_wp2_with fail
    go_ret
    exact ⟨ret_int HE.out.symm, 0, rfl⟩
  | false =>
    have HB := Hid.mk hb
    rw [hb] at HL
    clear hb
    cases hb : ss.all rsym with
    | false =>
      have HE := Hid.mk (aErr_sym H40.out HB.out hb)
      rw [hb] at HS
      clear hb
      go_enter Tryz.func46, Tryz.ntmps46
      go_wp2_with fail
      refine HL.out.mono ?_
      rintro e w' ⟨rfl, rfl⟩
      go_wp2_with fail
      refine HS.out.mono ?_
      rintro e w' ⟨rfl, rfl⟩
      go_wp2_with fail
      go_ret
      exact ⟨ret_int HE.out.symm, 0, rfl⟩
    | true =>
      have HA := Hid.mk hb
      rw [hb] at HS
      clear hb
      cases hb : isSet ss with
      | false =>
        have HE := Hid.mk (aErr_set H40.out HB.out hb)
        rw [hb] at HI
        clear hb
        go_enter Tryz.func46, Tryz.ntmps46
        go_wp2_with fail
        refine HL.out.mono ?_
        rintro e w' ⟨rfl, rfl⟩
        go_wp2_with fail
        refine HS.out.mono ?_
        rintro e w' ⟨rfl, rfl⟩
        go_wp2_with fail
        refine HI.out.mono ?_
        rintro e w' ⟨rfl, n, rfl⟩
        go_wp2_with fail
        go_ret
        exact ⟨ret_int HE.out.symm, n, rfl⟩
      | true =>
        have HE := Hid.mk (aErr_ok H40.out HB.out HA.out hb)
        rw [hb] at HI
        clear hb
        go_enter Tryz.func46, Tryz.ntmps46
        go_wp2_with fail
        refine HL.out.mono ?_
        rintro e w' ⟨rfl, rfl⟩
        go_wp2_with fail
        refine HS.out.mono ?_
        rintro e w' ⟨rfl, rfl⟩
        go_wp2_with fail
        refine HI.out.mono ?_
        rintro e w' ⟨rfl, n, rfl⟩
        go_wp2_with fail
        go_ret
        exact ⟨ret_int HE.out.symm, n, rfl⟩
set_option maxRecDepth 100000 in
set_option maxHeartbeats 2000000 in
theorem rIn_calls {ss : List Bs} {M : Heap} {A : Option Addr} {c : Nat} (hl : ss.length ≤ 1099511627776) (h : WsM M A ss) (hc : ss.length ≤ c) (x : Bs) (w : World) (hM : Mem w M) :
    Calls Tryz.prog 48 #[.string (bs x), .slice A ss.length c] w fun e w' => e = .returned (.bool (ss.any (· == x))) ∧ w = w' := by
  have HH := Hid.mk h
  have hxt := bs_toList x
  clear h
  go_enter Tryz.func48, Tryz.ntmps48
  go_wp2_with fail
  go_loopg [5] ss.length (fun kk v wr => ∃ j : Nat, j ≤ ss.length ∧ kk = ss.length - j ∧ v = .int .i64 (j : Nat) ∧ Hid ((ss.take j).any (· == x) = false) ∧ wr = w)
  case atStart => exact ⟨0, Nat.zero_le _, by simp, rfl, Hid.mk rfl, rfl⟩
  case round =>
    obtain ⟨j, hj, hkk, rfl, HI, rfl⟩ := hrel
    by_cases hlt : j < ss.length
    · obtain ⟨bb, o, rfl, hcell⟩ := HH.out.place (by omega)
      have q := hM.cell (hcell j hlt)
      have hyt := bs_toList ss[j]
      have HT := Hid.mk (any_take (p := (· == x)) hlt)
      clear hcell
      cases hb : ss[j] == x with
      | true =>
        have HE := Hid.mk (any_true (p := (· == x)) hlt hb)
        go_wp2_with fail
        go_ret
        exact ⟨ret_bool HE.out.symm, rfl⟩
      | false =>
        have HBB := Hid.mk hb
        go_wp2_with fail
        go_roundg (ss.length - (j + 1))
        case measure => omega
        case rel => exact ⟨j + 1, by omega, rfl, by go_num, Hid.mk (by rw [HT.out, HI.out, HBB.out]; rfl), rfl⟩
    · obtain rfl : j = ss.length := by omega
      have hlt' : ¬ ((ss.length : Int) < (ss.length : Int)) := by omega
      have HE : Hid (ss.any (· == x) = false) := Hid.mk (by have := HI.out; rwa [List.take_length] at this)
      go_wp2_with fail
      go_ret
      exact ⟨ret_bool HE.out.symm, rfl⟩
set_option maxRecDepth 100000 in
set_option maxHeartbeats 2000000 in
theorem rIs_calls {ss ws : List Bs} {M : Heap} {A B : Option Addr} {c d : Nat} (hl : ss.length ≤ 1099511627776) (hlw : ws.length ≤ 1099511627776) (h : WsM M A ss) (hc : ss.length ≤ c) (hw : WsM M B ws) (hd : ws.length ≤ d) (w : World) (hM : Mem w M) :
    Calls Tryz.prog 18 #[.slice B ws.length d, .slice A ss.length c] w fun e w' => e = .returned (.bool (ws.all (fun x => ss.any (· == x)))) ∧ w = w' := by
  have HH := Hid.mk h
  have HW := Hid.mk hw
  clear h hw
  go_enter Tryz.func18, Tryz.ntmps18
  go_wp2_with fail
  go_loopg [5] ws.length (fun kk v wr => ∃ j : Nat, j ≤ ws.length ∧ kk = ws.length - j ∧ v = .int .i64 (j : Nat) ∧ Hid ((ws.take j).all (fun x => ss.any (· == x)) = true) ∧ wr = w)
  case atStart => exact ⟨0, Nat.zero_le _, by simp, rfl, Hid.mk rfl, rfl⟩
  case round =>
    obtain ⟨j, hj, hkk, rfl, HI, rfl⟩ := hrel
    by_cases hlt : j < ws.length
    · obtain ⟨bb, o, rfl, hcell⟩ := HW.out.place (by omega)
      have q := hM.cell (hcell j hlt)
      have HT := Hid.mk (alls_take (p := fun x => ss.any (· == x)) hlt)
      have HC := Hid.mk (rIn_calls hl HH.out hc ws[j] wr hM)
      clear hcell
      cases hb : ss.any (· == ws[j]) with
      | false =>
        have HE := Hid.mk (alls_false (p := fun x => ss.any (· == x)) hlt hb)
        rw [hb] at HC
        clear hb
        go_wp2_with fail
        refine HC.out.mono ?_
        rintro e w' ⟨rfl, rfl⟩
        go_wp2_with fail
        go_ret
        exact ⟨ret_bool HE.out.symm, rfl⟩
      | true =>
        have HBB := Hid.mk hb
        rw [hb] at HC
        clear hb
        go_wp2_with fail
        refine HC.out.mono ?_
        rintro e w' ⟨rfl, rfl⟩
        go_wp2_with fail
        go_roundg (ws.length - (j + 1))
        case measure => omega
        case rel => exact ⟨j + 1, by omega, rfl, by go_num, Hid.mk (by rw [HT.out, HI.out, HBB.out]; rfl), rfl⟩
    · obtain rfl : j = ws.length := by omega
      have hlt' : ¬ ((ws.length : Int) < (ws.length : Int)) := by omega
      have HE : Hid (ws.all (fun x => ss.any (· == x)) = true) := Hid.mk (by have := HI.out; rwa [List.take_length] at this)
      go_wp2_with fail
      go_ret
      exact ⟨ret_bool HE.out.symm, rfl⟩
end Go.Proofs.YtgdnhlckodhhgaaGreatDoor

/-
  The reference: what is given; whether all symbols of an expression are in an alphabet. The program's Holds.
-/
namespace Go.Proofs.YtgdnhlckodhhgaaGreatDoor
open Go.RowKit
set_option linter.unusedVariables false
set_option linter.unusedSimpArgs false
theorem eHolds_all {e : E} {ss ws : List Bs} {M : Heap} {A Aw As : Option Addr} {c cs cw : Nat} (he : ExV M e A c) (hsz : e.size ≤ 1099511627776) (hwd : e.wide ≤ 1099511627776) (hss : WsM M As ss) (hcs : ss.length ≤ cs) (hls : ss.length ≤ 1099511627776) (hsl : ∀ s, s ∈ ss → s.length ≤ 1099511627776) (hws : WsM M Aw ws) (hcw : ws.length ≤ cw) (hlw : ws.length ≤ 1099511627776) (hwl : ∀ s, s ∈ ws → s.length ≤ 1099511627776) (w : World) (hM : Mem w M) :
    Calls Tryz.prog 10 #[.agg #[.int .i64 e.op, .string (bs e.s), .slice A e.l.length c], .slice As ss.length cs, .slice Aw ws.length cw] w (HEnd w (holdsR e ss ws)) := by
  by_cases h1 : verdict e = 0
  · by_cases h2 : aErr ss = 0
    · by_cases h3 : wordErr ws = 0
      · exact eHolds_good he hsz hwd hss hcs hls hsl hws hcw hlw hwl h1 h2 h3 w hM
      · exact eHolds_bad he hsz hwd hss hcs hls hsl hws hcw hlw hwl (.inr (.inr h3)) w hM
    · exact eHolds_bad he hsz hwd hss hcs hls hsl hws hcw hlw hwl (.inr (.inl h2)) w hM
  · exact eHolds_bad he hsz hwd hss hcs hls hsl hws hcw hlw hwl (.inl h1) w hM
/-- What is given, by the reference. -/
def givenR (e : E) (ss : List Bs) : Int := if verdict e ≠ 0 then verdict e else aErr ss
set_option maxRecDepth 100000 in
set_option maxHeartbeats 2000000 in
theorem rGiven_calls {e : E} {ss : List Bs} {M : Heap} {A As : Option Addr} {c cs : Nat} (he : ExV M e A c) (hsz : e.size ≤ 1099511627776) (hwd : e.wide ≤ 1099511627776) (hss : WsM M As ss) (hcs : ss.length ≤ cs) (hls : ss.length ≤ 1099511627776) (hsl : ∀ s, s ∈ ss → s.length ≤ 1099511627776) (w : World) (hM : Mem w M) :
    Calls Tryz.prog 16 #[.agg #[.int .i64 e.op, .string (bs e.s), .slice A e.l.length c], .slice As ss.length cs] w fun en w' => en = .returned (.int .i64 (givenR e ss)) ∧ Kp [] w w' := by
  have hM0 := hM.alloc (.cells #[.int .i64 e.op, .string (bs e.s), .slice A e.l.length c] 24)
  have HV := Hid.mk (rValidate_calls e A c (w.alloc (.cells #[.int .i64 e.op, .string (bs e.s), .slice A e.l.length c] 24)) M he hM0 hsz hwd)
  have HA := Hid.mk (fun w (hM : Mem w M) => rValidA_calls hsl hls hss hcs w hM)
  have HM := Hid.mk hM0
  clear hM0 he hsz hwd hss hcs hls hsl hM
  by_cases hv : verdict e = 0
  · have HR : Hid (givenR e ss = aErr ss) := Hid.mk (by unfold givenR; rw [if_neg (by simp [hv])])
    rw [hv] at HV
    generalize aErr ss = x at *
    clear hv
    go_enter Tryz.func16, Tryz.ntmps16
    go_wp2_with fail
    refine HV.out.mono ?_
    rintro en w2 ⟨rfl, hk2⟩
    have HA2 := Hid.mk (HA.out w2 (HM.out.kp hk2 (by simp)))
    have H2 := Hid.mk hk2
    clear hk2
    go_wp2_with fail
    refine HA2.out.mono ?_
    rintro en w3 ⟨rfl, n, rfl⟩
    go_wp2_with fail
    go_ret
    exact ⟨ret_int HR.out.symm, (((Kp.refl [] w).alloc _).trans H2.out).drewN _⟩
  · have HR : Hid (givenR e ss = verdict e) := Hid.mk (by unfold givenR; rw [if_pos hv])
    have hv1 : (verdict e != 0) = true := by simpa using hv
    generalize verdict e = x at *
    clear hv
    go_enter Tryz.func16, Tryz.ntmps16
    go_wp2_with fail
    refine HV.out.mono ?_
    rintro en w2 ⟨rfl, hk2⟩
    have H2 := Hid.mk hk2
    clear hk2
    go_wp2_with fail
    go_ret
    exact ⟨ret_int HR.out.symm, ((Kp.refl [] w).alloc _).trans H2.out⟩
set_option maxRecDepth 100000 in
set_option maxHeartbeats 2000000 in
/-- Is, of a row that is in the world. -/
theorem rIsW_calls {ss ws : List Bs} {M : Heap} {A : Option Addr} {c d g : Nat} (hl : ss.length ≤ 1099511627776) (hlw : ws.length ≤ 1099511627776) (h : WsM M A ss) (hc : ss.length ≤ c) (w : World) (hM : Mem w M) (hw : ∀ j, (h : j < ws.length) → w.cell? ⟨g, j, none⟩ = some (.string (bs ws[j]))) :
    Calls Tryz.prog 18 #[.slice (some ⟨g, 0, none⟩) ws.length d, .slice A ss.length c] w fun e w' => e = .returned (.bool (ws.all (fun x => ss.any (· == x)))) ∧ w = w' := by
  have HH := Hid.mk h
  clear h
  go_enter Tryz.func18, Tryz.ntmps18
  go_wp2_with fail
  go_loopg [5] ws.length (fun kk v wr => ∃ j : Nat, j ≤ ws.length ∧ kk = ws.length - j ∧ v = .int .i64 (j : Nat) ∧ Hid ((ws.take j).all (fun x => ss.any (· == x)) = true) ∧ wr = w)
  case atStart => exact ⟨0, Nat.zero_le _, by simp, rfl, Hid.mk rfl, rfl⟩
  case round =>
    obtain ⟨j, hj, hkk, rfl, HI, rfl⟩ := hrel
    by_cases hlt : j < ws.length
    · have q := hw j hlt
      have HT := Hid.mk (alls_take (p := fun x => ss.any (· == x)) hlt)
      have HC := Hid.mk (rIn_calls hl HH.out hc ws[j] wr hM)
      cases hb : ss.any (· == ws[j]) with
      | false =>
        have HE := Hid.mk (alls_false (p := fun x => ss.any (· == x)) hlt hb)
        rw [hb] at HC
        clear hb
        go_wp2_with fail
        refine HC.out.mono ?_
        rintro e w' ⟨rfl, rfl⟩
        go_wp2_with fail
        go_ret
        exact ⟨ret_bool HE.out.symm, rfl⟩
      | true =>
        have HBB := Hid.mk hb
        rw [hb] at HC
        clear hb
        go_wp2_with fail
        refine HC.out.mono ?_
        rintro e w' ⟨rfl, rfl⟩
        go_wp2_with fail
        go_roundg (ws.length - (j + 1))
        case measure => omega
        case rel => exact ⟨j + 1, by omega, rfl, by go_num, Hid.mk (by rw [HT.out, HI.out, HBB.out]; rfl), rfl⟩
    · obtain rfl : j = ws.length := by omega
      have hlt' : ¬ ((ws.length : Int) < (ws.length : Int)) := by omega
      have HE : Hid (ws.all (fun x => ss.any (· == x)) = true) := Hid.mk (by have := HI.out; rwa [List.take_length] at this)
      go_wp2_with fail
      go_ret
      exact ⟨ret_bool HE.out.symm, rfl⟩
set_option maxRecDepth 100000 in
set_option maxHeartbeats 2000000 in
theorem rIsOver_calls {e : E} {ss : List Bs} {M : Heap} {A As : Option Addr} {c cs : Nat} (he : ExV M e A c) (hsz : e.size ≤ 1000000) (hss : WsM M As ss) (hcs : ss.length ≤ cs) (hls : ss.length ≤ 1099511627776) (w : World) (hM : Mem w M) :
    Calls Tryz.prog 17 #[.agg #[.int .i64 e.op, .string (bs e.s), .slice A e.l.length c], .slice As ss.length cs] w fun en w' => en = .returned (.bool (e.syms.all (fun x => ss.any (· == x)))) ∧ Kp [] w w' := by
  have hM0 := hM.alloc (.cells #[.int .i64 e.op, .string (bs e.s), .slice A e.l.length c] 24)
  have HN := Hid.mk (named_calls e.size e A c (w.alloc (.cells #[.int .i64 e.op, .string (bs e.s), .slice A e.l.length c] 24)) M he hM0 (Nat.le_refl _) hsz)
  have hsl := syms_len e.size e (Nat.le_refl _)
  have HS := Hid.mk (And.intro hss (And.intro hcs hM0))
  clear hM0 he hss hcs hM
  go_enter Tryz.func17, Tryz.ntmps17
  go_wp2_with fail
  refine HN.out.mono ?_
  intro en w3 hnm
  obtain ⟨v, rfl, hown, hnil, hk3⟩ := hnm
  have HM3 := Hid.mk (HS.out.2.2.kp hk3 (by simp))
  have HK3 := Hid.mk (((Kp.refl [] w).alloc (.cells #[.int .i64 e.op, .string (bs e.s), .slice A e.l.length c] 24)).trans hk3)
  by_cases h0 : e.syms = []
  · have hv0 : v = .slice none 0 0 := hnil h0
    subst hv0
    have HI := Hid.mk (rIs_calls (ws := []) (B := none) (d := 0) hls (by simp) HS.out.1 HS.out.2.1 (fun j h => by simp at h) (by simp) w3 HM3.out)
    rw [← h0] at HI
    rw [show e.syms.length = 0 by rw [h0]; rfl] at HI
    clear h0 hnil hown hk3 hsl
    go_wp2_with fail
    refine HI.out.mono ?_
    rintro en w4 ⟨rfl, rfl⟩
    go_wp2_with fail
    go_ret
    exact ⟨rfl, HK3.out⟩
  · obtain ⟨g, cap, rfl, hcap, hbg, hlg, hcells⟩ := ownb_form hown (by have := List.length_pos_iff.2 h0; omega)
    have HI := Hid.mk (rIsW_calls (d := cap) (ws := e.syms) (g := g) hls (by omega) HS.out.1 HS.out.2.1 w3 HM3.out (fun j h => hcells j _ (by simp [strs, List.getElem?_eq_getElem h])))
    clear h0 hnil hown hk3 hsl hcells
    go_wp2_with fail
    refine HI.out.mono ?_
    rintro en w4 ⟨rfl, rfl⟩
    go_wp2_with fail
    go_ret
    exact ⟨rfl, HK3.out⟩
end Go.Proofs.YtgdnhlckodhhgaaGreatDoor
