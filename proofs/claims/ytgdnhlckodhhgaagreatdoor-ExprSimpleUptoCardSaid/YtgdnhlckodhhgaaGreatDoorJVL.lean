/-
  Alphabets: what is wrong with one, by the program and by the reference.
-/
import Derived.Test.YtgdnhlckodhhgaaGreatDoorJI
import Derived.Test.YtgdnhlckodhhgaaGreatDoorJL
import Derived.Test.YtgdnhlckodhhgaaGreatDoorJZ
import Derived.Test.YtgdnhlckodhhgaaGreatDoorJVE
import Derived.Test.YtgdnhlckodhhgaaGreatDoorJC
import Derived.Test.YtgdnhlckodhhgaaGreatDoorJVD
namespace Go.Proofs.YtgdnhlckodhhgaaGreatDoor
open Go.RowKit
set_option linter.unusedVariables false
set_option linter.unusedSimpArgs false
/-- The first n steps of a list ascend. -/
def ascTo (ss : List Bs) (n : Nat) : Bool := (List.range n).all fun i => Op.bytesLess (ss.getD i []) (ss.getD (i + 1) [])
def isSet (ss : List Bs) : Bool := ascTo ss (ss.length - 1)
/-- What is wrong with an alphabet. -/
def aErr (ss : List Bs) : Int := if 40 < ss.length ∨ ss.any long = true then 3 else if ss.all rsym = true ∧ isSet ss = true then 0 else 1
theorem asc_step {ss : List Bs} {n : Nat} (h : n + 1 < ss.length) : ascTo ss (n + 1) = (ascTo ss n && Op.bytesLess ss[n] ss[n + 1]) := by
  unfold ascTo
  rw [List.range_succ, List.all_append]
  simp only [List.all_cons, List.all_nil, Bool.and_true]
  rw [List.getD_eq_getElem?_getD, List.getD_eq_getElem?_getD, List.getElem?_eq_getElem (by omega), List.getElem?_eq_getElem h]
  rfl
theorem asc_no {ss : List Bs} {n : Nat} (h : n + 1 < ss.length) (hb : Op.bytesLess ss[n] ss[n + 1] = false) : isSet ss = false := by
  unfold isSet ascTo
  rw [List.all_eq_false]
  refine ⟨n, by rw [List.mem_range]; omega, ?_⟩
  rw [List.getD_eq_getElem?_getD, List.getD_eq_getElem?_getD, List.getElem?_eq_getElem (by omega), List.getElem?_eq_getElem h]
  simp [hb]
theorem aErr_alpha {ss : List Bs} (h : aErr ss = 0) : Alpha ss := by
  unfold aErr at h
  split at h
  · cases h
  rename_i h1
  split at h
  · rename_i h2
    obtain ⟨h2, h3⟩ := h2
    have hl : ss.any long = false := by
      cases hb : ss.any long with
      | true => exact absurd (.inr hb) h1
      | false => rfl
    refine ⟨Nat.le_of_not_lt (fun h => h1 (.inl h)), hl, fun s hs => ?_, fun i hi => ?_⟩
    · have := List.all_eq_true.1 h2 s hs
      simp only [rsym, Bool.and_eq_true] at this
      simp only [sym, Bool.and_eq_true]
      exact this.1
    · have := List.all_eq_true.1 h3 i (by rw [List.mem_range]; omega)
      rw [List.getD_eq_getElem?_getD, List.getD_eq_getElem?_getD, List.getElem?_eq_getElem (by omega), List.getElem?_eq_getElem hi] at this
      exact this
  · cases h
theorem aErr_large {ss : List Bs} (h : 40 < ss.length) : aErr ss = 3 := by rw [aErr, if_pos (.inl h)]
theorem aErr_long {ss : List Bs} (h : ss.any long = true) : aErr ss = 3 := by rw [aErr, if_pos (.inr h)]
theorem aErr_ok {ss : List Bs} (h : ¬ 40 < ss.length) (h2 : ss.any long = false) (h3 : ss.all rsym = true) (h4 : isSet ss = true) : aErr ss = 0 := by
  rw [aErr, if_neg (fun x => x.elim h (by rw [h2]; simp)), if_pos ⟨h3, h4⟩]
theorem aErr_sym {ss : List Bs} (h : ¬ 40 < ss.length) (h2 : ss.any long = false) (h3 : ss.all rsym = false) : aErr ss = 1 := by
  rw [aErr, if_neg (fun x => x.elim h (by rw [h2]; simp)), if_neg (by rw [h3]; simp)]
theorem aErr_set {ss : List Bs} (h : ¬ 40 < ss.length) (h2 : ss.any long = false) (h3 : isSet ss = false) : aErr ss = 1 := by
  rw [aErr, if_neg (fun x => x.elim h (by rw [h2]; simp)), if_neg (by rw [h3]; simp)]
set_option maxRecDepth 100000 in
set_option maxHeartbeats 2000000 in
theorem sValidA_calls {ss : List Bs} {M : Heap} {A : Option Addr} {c : Nat} (hs : ∀ s, s ∈ ss → s.length ≤ 1099511627776) (hl : ss.length ≤ 1099511627776) (h : WsM M A ss) (hc : ss.length ≤ c) (w : World) (hM : Mem w M) :
    Calls Tryz.prog 32 #[.slice A ss.length c] w fun e w' => e = .returned (.int .i64 (aErr ss)) ∧ w = w' := by
  have HL := Hid.mk (ContainsFuncS_calls (K := 69) (p := long) (fun s w => by kernel_rfl) isLong_calls ss A c M w hM h hs hl hc)
  have HH := Hid.mk h
  have HLN := Hid.mk hs
  clear h hs
  by_cases h40 : 40 < ss.length
  · have HE := Hid.mk (aErr_large h40)
    have h40' : (40 : Int) < (ss.length : Int) := by omega
    clear h40
    go_enter Tryz.func32, Tryz.ntmps32
    go_wp2_with fail
    go_ret
    exact ⟨ret_int HE.out.symm, rfl⟩
  have h40' : ¬ (40 : Int) < (ss.length : Int) := by omega
  have H40 := Hid.mk h40
  clear h40
  cases hb : ss.any long with
  | true =>
    have HE := Hid.mk (aErr_long hb)
    rw [hb] at HL
    clear hb
    go_enter Tryz.func32, Tryz.ntmps32
    go_wp2_with (go_at_call 68; refine HL.out.mono ?_; rintro e w' ⟨rfl, rfl⟩)
    go_ret
    exact ⟨ret_int HE.out.symm, rfl⟩
  | false =>
  have HB := Hid.mk hb
  have HSY : Hid (∀ s ∈ ss, sym s = rsym s) := Hid.mk (fun s hs => by
    have := List.any_eq_false.1 HB.out s hs
    simp [sym, rsym, this])
  rw [hb] at HL
  clear hb
  go_enter Tryz.func32, Tryz.ntmps32
  go_wp2_with (go_at_call 68; refine HL.out.mono ?_; rintro e w' ⟨rfl, rfl⟩)
  go_loopg [14] ss.length (fun kk v wr => ∃ j : Nat, j ≤ ss.length ∧ kk = ss.length - j ∧ v = .int .i64 (j : Nat) ∧ Hid ((ss.take j).all rsym = true ∧ ascTo ss (j - 1) = true) ∧ wr = w)
  case atStart => exact ⟨0, Nat.zero_le _, by simp, rfl, Hid.mk ⟨rfl, rfl⟩, rfl⟩
  case round =>
    obtain ⟨j, hj, hkk, rfl, HI, rfl⟩ := hrel
    by_cases hlt : j < ss.length
    · obtain ⟨bb, o, rfl, hcell⟩ := HH.out.place (by omega)
      have q := hM.cell (hcell j hlt)
      have HS := Hid.mk (isSymbol_calls ss[j] wr (by have := HLN.out _ (List.getElem_mem hlt); omega))
      have hyt := bs_toList ss[j]
      have HY := Hid.mk (HSY.out _ (List.getElem_mem hlt))
      have HT := Hid.mk (alls_take (p := rsym) hlt)
      cases hv : sym ss[j] with
      | false =>
        have HE := Hid.mk (aErr_sym H40.out HB.out (alls_false hlt (by rw [← HY.out, hv])))
        have hs : (ss[j].all signB && !ss[j].isEmpty) = false := hv
        rw [hs] at HS
        clear hcell hv hs
        go_wp2_with (go_at_call 70; refine HS.out.mono ?_; rintro e w' ⟨rfl, rfl⟩)
        go_ret
        exact ⟨ret_int HE.out.symm, rfl⟩
      | true =>
        have hs : (ss[j].all signB && !ss[j].isEmpty) = true := hv
        rw [hs] at HS
        have HV := Hid.mk hv
        clear hv hs
        cases j with
        | zero =>
          clear hcell
          rw [Nat.add_zero] at q
          go_wp2_with (go_at_call 70; refine HS.out.mono ?_; rintro e w' ⟨rfl, rfl⟩)
          go_roundg (ss.length - 1)
          case measure => omega
          case rel => exact ⟨1, by omega, rfl, by go_num, Hid.mk ⟨by rw [HT.out, HI.out.1, ← HY.out, HV.out]; rfl, rfl⟩, rfl⟩
        | succ j =>
          have q1 := hM.cell (hcell j (by omega))
          have hxt := bs_toList ss[j]
          have HAS := Hid.mk (asc_step hlt)
          clear hcell
          cases hb : Op.bytesLess ss[j] ss[j + 1] with
          | true =>
            have HBB := Hid.mk hb
            go_wp2_with (go_at_call 70; refine HS.out.mono ?_; rintro e w' ⟨rfl, rfl⟩)
            go_roundg (ss.length - (j + 2))
            case measure => omega
            case rel => exact ⟨j + 2, by omega, rfl, by go_num, Hid.mk ⟨by rw [HT.out, HI.out.1, ← HY.out, HV.out]; rfl, by
              show ascTo ss (j + 1) = true
              rw [HAS.out, HBB.out, HI.out.2 |> (fun h => (h : ascTo ss j = true))]; rfl⟩, rfl⟩
          | false =>
            have HE := Hid.mk (aErr_set H40.out HB.out (asc_no hlt hb))
            go_wp2_with (go_at_call 70; refine HS.out.mono ?_; rintro e w' ⟨rfl, rfl⟩)
            go_ret
            exact ⟨ret_int HE.out.symm, rfl⟩
    · obtain rfl : j = ss.length := by omega
      have hlt' : ¬ ((ss.length : Int) < (ss.length : Int)) := by omega
      have HE := Hid.mk (aErr_ok H40.out HB.out (by have := HI.out.1; rwa [List.take_length] at this) HI.out.2)
      go_wp2_with fail
      go_ret
      exact ⟨ret_int HE.out.symm, rfl⟩
end Go.Proofs.YtgdnhlckodhhgaaGreatDoor

/-
  Plain Lean: an ascending list, searched by halves: what is found is what is there.
-/
namespace Go.Proofs.YtgdnhlckodhhgaaGreatDoor
set_option linter.unusedVariables false
set_option linter.unusedSimpArgs false
theorem bytesLess_lt : ∀ x y : List UInt8, Op.bytesLess x y = decide (x < y)
  | [], [] => by simp [Op.bytesLess]
  | [], b :: y => by simp [Op.bytesLess]
  | a :: x, [] => by simp [Op.bytesLess]
  | a :: x, b :: y => by
    rw [Op.bytesLess, bytesLess_lt x y, Bool.eq_iff_iff]
    simp [List.cons_lt_cons_iff]
theorem asc_lt {ss : List Bs} (h : Alpha ss) {j : Nat} (hj : j < ss.length) : ∀ i, (h : i < j) → ss[i]'(by omega) < ss[j] := by
  induction j with
  | zero => intro i h; omega
  | succ j ih =>
    intro i hi
    have h1 := h.2.2.2 j hj
    rw [bytesLess_lt, decide_eq_true_eq] at h1
    rcases Nat.lt_or_ge i j with h2 | h2
    · exact List.lt_trans (ih (by omega) i h2) h1
    · obtain rfl : i = j := by omega
      exact h1
theorem bsg_spec {lt : Nat → Bool} {i : Nat} (h : ∀ t, lt t = decide (t < i)) : ∀ (f lo hi : Nat), hi - lo ≤ f → lo ≤ i → i ≤ hi → bsg lt f lo hi = i := by
  intro f
  induction f with
  | zero => intro lo hi hf h1 h2; rw [bsg]; omega
  | succ f ih =>
    intro lo hi hf h1 h2
    rw [bsg]
    by_cases hlt : lo < hi
    · rw [if_pos hlt, h]
      by_cases hm : (lo + hi) / 2 < i
      · rw [if_pos (by simpa using hm)]; exact ih _ _ (by omega) (by omega) h2
      · rw [if_neg (by simpa using hm)]; exact ih _ _ (by omega) h1 (by omega)
    · rw [if_neg hlt]; omega
theorem ltAt_at {ss : List Bs} (h : Alpha ss) {i : Nat} (hi : i < ss.length) (t : Nat) (ht : t < ss.length) : ltAt ss ss[i] t = decide (t < i) := by
  unfold ltAt
  rw [List.getD_eq_getElem?_getD, List.getElem?_eq_getElem ht, Option.getD_some, bytesLess_lt]
  rcases Nat.lt_trichotomy t i with h1 | h1 | h1
  · rw [decide_eq_true (asc_lt h hi t h1), decide_eq_true h1]
  · subst h1
    rw [decide_eq_false (List.lt_irrefl _), decide_eq_false (Nat.lt_irrefl _)]
  · have := asc_lt h ht i h1
    rw [decide_eq_false (fun hx => List.lt_irrefl _ (List.lt_trans hx this)), decide_eq_false (by omega)]
theorem bsg_spec2 {lt : Nat → Bool} {n i : Nat} (h : ∀ t, t < n → lt t = decide (t < i)) : ∀ (f lo hi : Nat), hi - lo ≤ f → lo ≤ i → i ≤ hi → hi ≤ n → bsg lt f lo hi = i := by
  intro f
  induction f with
  | zero => intro lo hi hf h1 h2 _; rw [bsg]; omega
  | succ f ih =>
    intro lo hi hf h1 h2 hn
    rw [bsg]
    by_cases hlt : lo < hi
    · rw [if_pos hlt, h _ (by omega)]
      by_cases hm : (lo + hi) / 2 < i
      · rw [if_pos (by simpa using hm)]; exact ih _ _ (by omega) (by omega) h2 hn
      · rw [if_neg (by simpa using hm)]; exact ih _ _ (by omega) h1 (by omega) (by omega)
    · rw [if_neg hlt]; omega
theorem bsF_any {ss : List Bs} (h : Alpha ss) (x : Bs) : bsF ss x = ss.any (· == x) := by
  rw [Bool.eq_iff_iff, List.any_eq_true]
  constructor
  · intro hx
    simp only [bsF, Bool.and_eq_true, decide_eq_true_eq] at hx
    obtain ⟨h1, h2⟩ := hx
    rw [List.getD_eq_getElem?_getD, List.getElem?_eq_getElem h1] at h2
    exact ⟨_, List.getElem_mem h1, h2⟩
  · rintro ⟨y, hy, he⟩
    have he : y = x := by simpa using he
    subst he
    obtain ⟨i, hi, rfl⟩ := List.getElem_of_mem hy
    have hk : bsK ss ss[i] = i := bsg_spec2 (fun t ht => ltAt_at h hi t ht) _ _ _ (by omega) (Nat.zero_le _) (by omega) (Nat.le_refl _)
    simp only [bsF, hk, Bool.and_eq_true, decide_eq_true_eq]
    exact ⟨hi, by rw [List.getD_eq_getElem?_getD, List.getElem?_eq_getElem hi]; simp⟩
theorem bsK_inj {ss : List Bs} {x y : Bs} (hx : bsF ss x = true) (hy : bsF ss y = true) (h : bsK ss x = bsK ss y) : x = y := by
  simp only [bsF, Bool.and_eq_true, decide_eq_true_eq] at hx hy
  have h1 : ss.getD (bsK ss x) [] = x := by simpa using hx.2
  have h2 : ss.getD (bsK ss y) [] = y := by simpa using hy.2
  rw [← h1, ← h2, h]
/-- A symbol's byte. -/
def symF (ss : List Bs) (x : Bs) : UInt8 := UInt8.ofNat (bsK ss x)
theorem symF_inj {ss : List Bs} (hl : ss.length ≤ 40) {x y : Bs} (hx : bsF ss x = true) (hy : bsF ss y = true) (h : symF ss x = symF ss y) : x = y := by
  have h1 := bsF_lt hx
  have h2 := bsF_lt hy
  refine bsK_inj hx hy ?_
  have := congrArg UInt8.toNat h
  simp only [symF, UInt8.toNat_ofNat'] at this
  omega
theorem word_symF (ss ws : List Bs) : toBs (wkGo ss ws) = ws.map (symF ss) := by
  simp [toBs, wkGo, symF]
theorem symN_of {ss : List Bs} {s : Bs} (h : bsF ss s = true) : symN ss 0 s = [symF ss s] := by
  rw [symN, if_pos rfl, wordK_all (ws := [s]) (fun x hx => by simp at hx; rw [hx]; exact h)]
  rfl
/-- One meaning: the node's of the word in bytes, the expression's of the word in symbols. -/
theorem ev_rev {ss : List Bs} (hl : ss.length ≤ 40) {w : List Bs} (hw : ∀ x ∈ w, bsF ss x = true) (n : Nat) : ∀ (e : E) (k : Nat), e.size ≤ n → (∀ s ∈ e.syms, bsF ss s = true) → Alike (symF ss) w (ev (mkN ss k e).1) (rev e) := by
  induction n with
  | zero => intro e k he; have := size_pos e; omega
  | succ n ih =>
    intro e k he hs v hv
    have hsz := E.size_eq e
    have hall : ∀ (l : List E) (k : Nat), sizes l ≤ n → (∀ s ∈ symss l, bsF ss s = true) → AllAlike (symF ss) v (evs (mkNs ss k l).1) (revs l) := by
      intro l
      induction l with
      | nil => intro k _ _; exact .nil
      | cons a l ihl =>
        intro k hk hs
        simp only [sizes] at hk
        simp only [mkNs, evs, revs]
        refine .cons (fun u hu => ih a k (by omega) (fun s h => hs s (by rw [symss, List.mem_append]; exact .inl h)) u (hu.trans hv)) (ihl _ (by omega) (fun s h => hs s (by rw [symss, List.mem_append]; exact .inr h)))
    rw [mkN_eq]
    have he' : rev e v = revOp e.op e.s (revs e.l) v := by cases e; simp [rev, E.op, E.s, E.l]
    rw [he', ev]
    refine evOp_map (hall e.l (k + 1) (by omega) (fun s h => hs s (by rw [E.syms_eq, List.mem_append]; exact .inr h))) (fun h0 => ?_)
    have hss : bsF ss e.s = true := hs _ (by rw [E.syms_eq, if_pos h0]; simp)
    rw [h0, symN_of hss, Bool.eq_iff_iff, beq_iff_eq, beq_iff_eq]
    have hvw : ∀ x ∈ v, bsF ss x = true := fun x hx => hw x (hv.subset hx)
    match v, hvw with
    | [], _ => simp
    | [a], hvw =>
      simp only [List.map_cons, List.map_nil, List.cons.injEq, and_true]
      exact ⟨fun h => symF_inj hl (hvw a (by simp)) hss h, fun h => by rw [h]⟩
    | a :: b :: r, _ => simp
end Go.Proofs.YtgdnhlckodhhgaaGreatDoor

/-
  Whether an operation stands in an expression, by the reference.
-/
namespace Go.Proofs.YtgdnhlckodhhgaaGreatDoor
open Go.RowKit
set_option linter.unusedVariables false
set_option linter.unusedSimpArgs false
mutual
/-- One of two operations stands in it. -/
def E.has (a b : Int) : E → Bool | .mk op s l => op == a || op == b || hass a b l
def hass (a b : Int) : List E → Bool | [] => false | e :: l => e.has a b || hass a b l
end
theorem hass_any (a b : Int) (l : List E) : hass a b l = l.any (E.has a b) := by
  induction l with
  | nil => simp [hass]
  | cons x l ih => simp [hass, ih]
theorem E.has_eq (a b : Int) (e : E) : e.has a b = (e.op == a || e.op == b || e.l.any (E.has a b)) := by cases e; simp [E.has, E.op, E.l, hass_any]
set_option maxRecDepth 100000 in
set_option maxHeartbeats 2000000 in
theorem rHas_calls {a b : Int} (n : Nat) : ∀ (e : E) (A : Option Addr) (c : Nat) (w : World) (M : Heap), ExV M e A c → Mem w M → e.size ≤ n → n ≤ 1099511627776 →
    Calls Tryz.prog 28 #[.agg #[.int .i64 e.op, .string (bs e.s), .slice A e.l.length c], .int .i64 a, .int .i64 b] w fun en w' => en = .returned (.bool (e.has a b)) ∧ Kp [] w w' := by
  induction n with
  | zero => intro e A c w M h hM hn; have := size_pos e; omega
  | succ n ih =>
    intro e A c w M h hM hn hbig
    have HS := Hid.mk (E.has_eq a b e)
    have hn1 : sizes e.l ≤ n := by rw [E.size_eq] at hn; omega
    have hll := length_sizes e.l
    clear hn
    cases b1 : e.op == a with
    | true =>
      have HR := Hid.mk (show e.has a b = true by rw [HS.out, b1]; rfl)
      clear HS
      go_enter Tryz.func28, Tryz.ntmps28
      go_wp2_with fail
      go_ret
      exact ⟨ret_bool HR.out.symm, (Kp.refl _ _).alloc _⟩
    | false =>
      cases b2 : e.op == b with
      | true =>
        have HR := Hid.mk (show e.has a b = true by rw [HS.out, b1, b2]; rfl)
        clear HS
        go_enter Tryz.func28, Tryz.ntmps28
        go_wp2_with fail
        go_ret
        exact ⟨ret_bool HR.out.symm, (Kp.refl _ _).alloc _⟩
      | false =>
        have HR := Hid.mk (show e.has a b = e.l.any (E.has a b) by rw [HS.out, b1, b2]; rfl)
        clear HS
        by_cases hl : e.l.length = 0
        · have hl' : e.l = [] := List.length_eq_zero_iff.1 hl
          have HR := Hid.mk (show e.has a b = false by rw [HR.out, hl']; rfl)
          rw [hl]
          clear hl hl' hll hn1
          go_enter Tryz.func28, Tryz.ntmps28
          go_wp2_with fail
          refine wp_loop_rounds 1 ?_
          rw [rounds_succ]
          go_wp2_with fail
          go_ret
          exact ⟨ret_bool HR.out.symm, (Kp.refl _ _).alloc _⟩
        · obtain ⟨bb, o, rfl⟩ := h.place (by omega)
          have HE := Hid.mk h
          clear h
          go_enter Tryz.func28, Tryz.ntmps28
          go_wp2_with fail
          go_loopg [7] e.l.length (fun k v7 wr => ∃ j : Nat, j ≤ e.l.length ∧ k = e.l.length - j ∧ v7 = .int .i64 (j : Nat) ∧ (e.l.take j).any (E.has a b) = false ∧ Mem wr M ∧ Kp [] w wr ∧ Box wr M w.heap.size #[.int .i64 e.op, .string (bs e.s), .slice (some ⟨bb, o, none⟩) e.l.length c] 24)
          case atStart => exact ⟨0, Nat.zero_le _, by simp, rfl, by simp, hM.alloc _, (Kp.refl _ _).alloc _, Box.new hM _ _⟩
          case round =>
            obtain ⟨j, hj, hk, rfl, HJ, hM', hK', hb1⟩ := hrel
            replace HJ := Hid.mk HJ
            obtain ⟨_, _, z2⟩ := hb1.three.1
            by_cases hlt : j < e.l.length
            · obtain ⟨A', c', hx0, hx1, hx2, hx⟩ := HE.out.at_ j hlt
              have q0 := hM'.cell hx0
              have q1 := hM'.cell hx1
              have q2 := hM'.cell hx2
              have hjs := size_mem (List.getElem_mem hlt)
              have HT := Hid.mk (any_take (p := E.has a b) hlt)
              have HH := Hid.mk (And.intro hM' (And.intro hK' hx))
              clear hx0 hx1 hx2 hx hM' hK'
              by_cases hc : e.l[j].has a b = true
              · have HF := Hid.mk (HR.out.trans (any_true (p := E.has a b) hlt hc))
                go_wp2_with fail
                refine (ih e.l[j] A' c' _ M HH.out.2.2 HH.out.1 (by omega) (by omega)).mono ?_
                rintro e' w2 ⟨rfl, hk2⟩
                go_wp2_with fail
                go_ret
                exact ⟨ret_bool HF.out.symm, HH.out.2.1.trans hk2⟩
              · replace hc := Bool.eq_false_iff.2 hc
                have HC := Hid.mk hc
                go_wp2_with fail
                refine (ih e.l[j] A' c' _ M HH.out.2.2 HH.out.1 (by omega) (by omega)).mono ?_
                rintro e' w2 ⟨rfl, hk2⟩
                go_wp2_with fail
                go_roundg (e.l.length - (j + 1))
                case measure => omega
                case rel => exact ⟨j + 1, by omega, rfl, by go_num, by rw [HT.out, HJ.out, HC.out]; rfl, HH.out.1.kp hk2 (by simp), HH.out.2.1.trans hk2, hb1.same hk2 (by simp)⟩
            · obtain rfl : j = e.l.length := by omega
              have hlt' : ¬ ((e.l.length : Int) < (e.l.length : Int)) := by omega
              have HF := Hid.mk (HR.out.trans (show e.l.any (E.has a b) = false by have := HJ.out; rwa [List.take_length] at this))
              go_wp2_with fail
              go_ret
              exact ⟨ret_bool HF.out.symm, hK'⟩
end Go.Proofs.YtgdnhlckodhhgaaGreatDoor

/-
  Plain Lean: the nodes of a right expression: their numbers tell them; they may be asked of.
-/
namespace Go.Proofs.YtgdnhlckodhhgaaGreatDoor
set_option linter.unusedVariables false
set_option linter.unusedSimpArgs false
theorem mkNs_mem (ss : List Bs) (l : List E) : ∀ (k : Nat) (x : Nd), x ∈ (mkNs ss k l).1 → ∃ e, e ∈ l ∧ ∃ k', k ≤ k' ∧ k' + e.size ≤ k + sizes l ∧ x = (mkN ss k' e).1 := by
  induction l with
  | nil => intro k x hx; simp [mkNs] at hx
  | cons a l ih =>
    intro k x hx
    simp only [mkNs, List.mem_cons] at hx
    rcases hx with rfl | hx
    · exact ⟨a, by simp, k, Nat.le_refl _, by simp only [sizes]; omega, rfl⟩
    · obtain ⟨e, h1, k', h2, h3, h4⟩ := ih _ x hx
      rw [mkN_count] at h2 h3
      exact ⟨e, by simp [h1], k', by omega, by simp only [sizes]; omega, h4⟩
theorem nums_congr (ss : List Bs) : ∀ (d : Nat) (e : E) (k : Nat) (V V' : Nat → Bs → Bool), (∀ m, k ≤ m → m < k + e.size → V m = V' m) → Nums V d (mkN ss k e).1 → Nums V' d (mkN ss k e).1 := by
  intro d
  induction d with
  | zero => intro e k V V' _ h; exact h.elim
  | succ d ih =>
    intro e k V V' hv h
    have hsz := E.size_eq e
    rw [mkN_eq] at h ⊢
    obtain ⟨h1, h2, h3⟩ := h
    refine ⟨h1, (hv k (Nat.le_refl _) (by omega)).symm.trans h2, fun x hx => ?_⟩
    obtain ⟨e', he', k', hk1, hk2, rfl⟩ := mkNs_mem ss e.l (k + 1) x hx
    exact ih e' k' V V' (fun m hm1 hm2 => hv m (by omega) (by omega)) (h3 _ hx)
theorem nums_ex (ss : List Bs) : ∀ (d : Nat) (e : E) (k : Nat) (V0 : Nat → Bs → Bool), e.nest ≤ d → k + e.size ≤ 1000000 → ∃ V, (∀ m, m < k ∨ k + e.size ≤ m → V m = V0 m) ∧ Nums V d (mkN ss k e).1 := by
  intro d
  induction d with
  | zero => intro e k V0 h; have := E.nest_eq e; omega
  | succ d ih =>
    intro e k V0 hn hk
    have hsz := E.size_eq e
    have hne := E.nest_eq e
    have hrow : ∀ (l : List E) (k : Nat) (V0 : Nat → Bs → Bool), nests l ≤ d → k + sizes l ≤ 1000000 → ∃ V, (∀ m, m < k ∨ k + sizes l ≤ m → V m = V0 m) ∧ ∀ x ∈ (mkNs ss k l).1, Nums V d x := by
      intro l
      induction l with
      | nil => intro k V0 _ _; exact ⟨V0, fun m _ => rfl, fun x hx => by simp [mkNs] at hx⟩
      | cons a l ihl =>
        intro k V0 hn hk
        simp only [nests, sizes] at hn hk
        obtain ⟨V1, h1, h2⟩ := ih a k V0 (by omega) (by omega)
        obtain ⟨V, h3, h4⟩ := ihl (k + a.size) V1 (by omega) (by omega)
        refine ⟨V, fun m hm => ?_, fun x hx => ?_⟩
        · simp only [sizes] at hm
          rw [h3 m (by omega), h1 m (by omega)]
        · simp only [mkNs, List.mem_cons] at hx
          rcases hx with rfl | hx
          · exact nums_congr ss d a k V1 V (fun m hm1 hm2 => (h3 m (by omega)).symm) h2
          · rw [mkN_count] at hx
            exact h4 x hx
    obtain ⟨V, h1, h2⟩ := hrow e.l (k + 1) V0 (by omega) (by omega)
    refine ⟨fun m => if m = k then ev (mkN ss k e).1 else V m, fun m hm => ?_, ?_⟩
    · have : m ≠ k := by omega
      simp only [this, if_false]
      exact h1 m (by omega)
    · rw [mkN_eq]
      refine ⟨by omega, by simp, fun x hx => ?_⟩
      obtain ⟨e', he', k', hk1, hk2, rfl⟩ := mkNs_mem ss e.l (k + 1) x hx
      refine nums_congr ss d e' k' V _ (fun m hm1 hm2 => ?_) (h2 _ hx)
      have : m ≠ k := by omega
      simp only [this, if_false]
/-- A right node has as many below it as are asked of. -/
theorem shape_fits {L : Nat} {op : Int} {s : Bs} {n : Nat} (h : fits op s n = true) (hL : op = 13 ∨ op = 15 → L ≤ 10) : shapeN L op n := by
  simp only [fits, Bool.and_eq_true, decide_eq_true_eq] at h
  obtain ⟨⟨⟨⟨h0, h15⟩, h1⟩, h2⟩, _⟩ := h
  have hop : op = 0 ∨ op = 1 ∨ op = 2 ∨ op = 3 ∨ op = 4 ∨ op = 5 ∨ op = 6 ∨ op = 7 ∨ op = 8 ∨ op = 9 ∨ op = 10 ∨ op = 11 ∨ op = 12 ∨ op = 13 ∨ op = 14 ∨ op = 15 := by omega
  unfold shapeN
  rcases hop with rfl | rfl | rfl | rfl | rfl | rfl | rfl | rfl | rfl | rfl | rfl | rfl | rfl | rfl | rfl | rfl <;> simp [kidsR] at h1 h2 hL ⊢ <;> omega
theorem nests_mem {x : E} : ∀ {l : List E}, x ∈ l → x.nest ≤ nests l
  | a :: l, hx => by
    simp only [nests]
    rcases List.mem_cons.1 hx with rfl | hx
    · omega
    · have := nests_mem hx; omega
theorem oka_of (ss : List Bs) {L : Nat} : ∀ (d : Nat) (e : E) (k : Nat), e.nest ≤ d → e.size ≤ 1000000 → e.right = true → (e.has 15 13 = true → L ≤ 10) → Oka L d (mkN ss k e).1 := by
  intro d
  induction d with
  | zero => intro e k h; have := E.nest_eq e; omega
  | succ d ih =>
    intro e k hn hs hr hh
    have hsz := E.size_eq e
    have hne := E.nest_eq e
    have hll := length_sizes e.l
    rw [E.right_eq, Bool.and_eq_true] at hr
    rw [E.has_eq] at hh
    rw [mkN_eq]
    refine ⟨?_, ?_, fun x hx => ?_⟩
    · show shapeN L e.op (mkNs ss (k + 1) e.l).1.length
      rw [mkNs_len]
      refine shape_fits hr.1 (fun h => hh ?_)
      rcases h with h | h <;> simp [h]
    · show (mkNs ss (k + 1) e.l).1.length ≤ 1000000
      rw [mkNs_len]; omega
    · obtain ⟨e', he', k', hk1, hk2, rfl⟩ := mkNs_mem ss e.l (k + 1) x hx
      have h1 := size_mem he'
      have h2 := nests_mem he'
      refine ih e' k' (by omega) (by omega) (List.all_eq_true.1 hr.2 e' he') (fun h => hh ?_)
      rw [Bool.or_eq_true]
      right
      rw [List.any_eq_true]
      exact ⟨e', he', h⟩
end Go.Proofs.YtgdnhlckodhhgaaGreatDoor
