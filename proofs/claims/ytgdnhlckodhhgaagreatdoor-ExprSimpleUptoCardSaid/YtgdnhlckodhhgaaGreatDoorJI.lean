/-
  slices.BinarySearch over strings.
-/
import Derived.Test.YtgdnhlckodhhgaaGreatDoorJC
import Derived.Lib.Walk
import Derived.Test.YtgdnhlckodhhgaaGreatDoorJH8
import Derived.Laws.EntriesVeiled
import Derived.Lib.JoinLaws
import Derived.Laws.BytesArg
namespace Go.Proofs.YtgdnhlckodhhgaaGreatDoor
open Go.RowKit
set_option linter.unusedVariables false
set_option linter.unusedSimpArgs false
set_option maxHeartbeats 400000 in
theorem cisNaN_calls (x : ByteArray) (w : World) : Calls Tryz.prog 173 #[.string x] w fun e w' => e = .returned (.bool false) ∧ w = w' := by
  go_enter Tryz.func173, Tryz.ntmps173
  go_wp2_with fail
  go_ret
  exact ⟨ret_bool (by simp), rfl⟩
set_option maxHeartbeats 400000 in
theorem sisNaN_calls (x : ByteArray) (w : World) : Calls Tryz.prog 113 #[.string x] w fun e w' => e = .returned (.bool false) ∧ w = w' := by
  go_enter Tryz.func113, Tryz.ntmps113
  go_wp2_with fail
  go_ret
  exact ⟨ret_bool (by simp), rfl⟩
set_option maxHeartbeats 400000 in
theorem Less_calls (x y : ByteArray) (w : World) : Calls Tryz.prog 112 #[.string x, .string y] w fun e w' => e = .returned (.bool (Op.bytesLess x.toList y.toList)) ∧ w = w' := by
  go_enter Tryz.func112, Tryz.ntmps112
  go_wp2_with (go_at_call 173; refine (cisNaN_calls _ _).mono ?_; rintro e w' ⟨rfl, rfl⟩)
  go_ret
  exact ⟨rfl, rfl⟩
def bsg (lt : Nat → Bool) : Nat → Nat → Nat → Nat
  | 0, lo, _ => lo
  | f + 1, lo, hi => if lo < hi then (if lt ((lo + hi) / 2) then bsg lt f ((lo + hi) / 2 + 1) hi else bsg lt f lo ((lo + hi) / 2)) else lo
theorem bsg_fuel (lt : Nat → Bool) : ∀ (f g lo hi : Nat), hi - lo ≤ f → hi - lo ≤ g → bsg lt f lo hi = bsg lt g lo hi
  | 0, 0, _, _, _, _ => rfl
  | 0, g + 1, lo, hi, hf, _ => by simp [bsg, show ¬ lo < hi by omega]
  | f + 1, 0, lo, hi, _, hg => by simp [bsg, show ¬ lo < hi by omega]
  | f + 1, g + 1, lo, hi, hf, hg => by
    unfold bsg
    by_cases h : lo < hi
    · rw [if_pos h, if_pos h, bsg_fuel lt f g _ _ (by omega) (by omega), bsg_fuel lt f g lo _ (by omega) (by omega)]
    · rw [if_neg h, if_neg h]
def ltAt (ss : List Bs) (x : Bs) (t : Nat) : Bool := Op.bytesLess (ss.getD t []) x
def bsK (ss : List Bs) (x : Bs) : Nat := bsg (ltAt ss x) ss.length 0 ss.length
def bsF (ss : List Bs) (x : Bs) : Bool := decide (bsK ss x < ss.length) && (ss.getD (bsK ss x) [] == x)
set_option maxRecDepth 100000 in
set_option maxHeartbeats 2000000 in
theorem BinarySearch_calls {ss : List Bs} {M : Heap} {A : Option Addr} {c : Nat} (h : WsM M A ss) (hl : ss.length ≤ 1000000) (x : Bs) (w : World) (hM : Mem w M) :
    Calls Tryz.prog 74 #[.slice A ss.length c, .string (bs x)] w fun e w' => e = .returned (.tuple #[.int .i64 (bsK ss x : Nat), .bool (bsF ss x)]) ∧ w = w' := by
  have HH := Hid.mk h
  have hxt := bs_toList x
  go_enter Tryz.func74, Tryz.ntmps74
  go_wp2_with fail
  go_loopg [7, 8] ss.length (fun kk v7 v8 wr => ∃ lo hi : Nat, lo ≤ hi ∧ hi ≤ ss.length ∧ kk = hi - lo ∧ v7 = .int .i64 (lo : Nat) ∧ v8 = .int .i64 (hi : Nat) ∧ Hid (bsg (ltAt ss x) (hi - lo) lo hi = bsK ss x) ∧ wr = w)
  case atStart => exact ⟨0, ss.length, Nat.zero_le _, Nat.le_refl _, by simp, rfl, rfl, Hid.mk (by rw [bsK]; exact bsg_fuel _ _ _ _ _ (by omega) (by omega)), rfl⟩
  case round =>
    obtain ⟨lo, hi, h1, h2, hk, rfl, rfl, HB, rfl⟩ := hrel
    by_cases hlt : lo < hi
    · obtain ⟨bb, o, rfl, hcell⟩ := HH.out.place (by omega)
      have hmlt : (lo + hi) / 2 < ss.length := by omega
      obtain ⟨y, hy⟩ : ∃ y, y = ss.getD ((lo + hi) / 2) [] := ⟨_, rfl⟩
      have hyg : ss[(lo + hi) / 2] = y := by rw [hy, List.getD_eq_getElem?_getD, List.getElem?_eq_getElem hmlt]; rfl
      have q := hM.cell (hcell ((lo + hi) / 2) hmlt)
      rw [hyg] at q
      have hst : bsg (ltAt ss x) (hi - lo) lo hi = if Op.bytesLess y x then bsg (ltAt ss x) (hi - lo - 1) ((lo + hi) / 2 + 1) hi else bsg (ltAt ss x) (hi - lo - 1) lo ((lo + hi) / 2) := by
        obtain ⟨f, hf⟩ : ∃ f, hi - lo = f + 1 := ⟨hi - lo - 1, by omega⟩
        rw [hf, bsg, if_pos hlt, show ltAt ss x ((lo + hi) / 2) = Op.bytesLess y x by rw [ltAt, hy]]; rfl
      have hyt := bs_toList y
      rw [HB.out] at hst
      clear hy hyg hcell
      cases hB : Op.bytesLess y x with
      | true =>
        rw [hB, if_pos rfl] at hst
        have HST := Hid.mk hst
        clear hst
        go_wp2_with (go_at_call 112; refine (Less_calls _ _ _).mono ?_; rintro e w' ⟨rfl, rfl⟩)
        go_roundg (hi - ((lo + hi) / 2 + 1))
        case measure => omega
        case rel => exact ⟨(lo + hi) / 2 + 1, hi, by omega, h2, rfl, by rw [show ((lo : Int) + (hi : Int)) / 2 + 1 = (((lo + hi) / 2 + 1 : Nat) : Int) by omega], rfl, Hid.mk (by rw [HST.out]; exact bsg_fuel _ _ _ _ _ (Nat.le_refl _) (by omega)), rfl⟩
      | false =>
        rw [hB, if_neg (by simp)] at hst
        have HST := Hid.mk hst
        clear hst
        go_wp2_with (go_at_call 112; refine (Less_calls _ _ _).mono ?_; rintro e w' ⟨rfl, rfl⟩)
        go_roundg ((lo + hi) / 2 - lo)
        case measure => omega
        case rel => exact ⟨lo, (lo + hi) / 2, by omega, by omega, rfl, rfl, by rw [show ((lo : Int) + (hi : Int)) / 2 = (((lo + hi) / 2 : Nat) : Int) by omega], Hid.mk (by rw [HST.out]; exact bsg_fuel _ _ _ _ _ (Nat.le_refl _) (by omega)), rfl⟩
    · obtain rfl : hi = lo := by omega
      have hK : bsK ss x = hi := by
        rw [← HB.out, show hi - hi = 0 by omega]; rfl
      have HK := Hid.mk hK
      clear hK
      by_cases hn : hi < ss.length
      · obtain ⟨bb, o, rfl, hcell⟩ := HH.out.place (by omega)
        obtain ⟨y, hy⟩ : ∃ y, y = ss.getD hi [] := ⟨_, rfl⟩
        have hyg : ss[hi] = y := by rw [hy, List.getD_eq_getElem?_getD, List.getElem?_eq_getElem hn]; rfl
        have q := hM.cell (hcell hi hn)
        rw [hyg] at q
        have hyt := bs_toList y
        have HF := Hid.mk (show bsF ss x = (y == x) by rw [bsF, HK.out, ← hy, decide_eq_true hn]; rfl)
        clear hy hyg hcell
        cases hB : (y == x) with
        | true =>
          go_wp2_with (go_at_call 113; refine (sisNaN_calls _ _).mono ?_; rintro e w' ⟨rfl, rfl⟩)
          go_ret2
          refine ⟨?_, rfl⟩
          rw [HK.out, HF.out, hB]
          rfl
        | false =>
          go_wp2_with (go_at_call 113; refine (sisNaN_calls _ _).mono ?_; rintro e w' ⟨rfl, rfl⟩)
          go_ret2
          refine ⟨?_, rfl⟩
          rw [HK.out, HF.out, hB]
          rfl
      · have HF := Hid.mk (show bsF ss x = false by rw [bsF, HK.out, decide_eq_false hn]; rfl)
        go_wp2_with (go_at_call 113; refine (sisNaN_calls _ _).mono ?_; rintro e w' ⟨rfl, rfl⟩)
        go_ret2
        refine ⟨?_, rfl⟩
        rw [HK.out, HF.out]
        rfl
end Go.Proofs.YtgdnhlckodhhgaaGreatDoor

/-
  The asker: what it asks of a node (symbols, chains, ignore), and all nodes together.
-/
namespace Go.Proofs.YtgdnhlckodhhgaaGreatDoor
open Go.RowKit
set_option linter.unusedVariables false
set_option linter.unusedSimpArgs false
theorem NdM.cells {M : Heap} {b : Nat} {nd : Nd} (h : NdM M b nd) : ∃ (A : Option Addr) (c : Nat) (bj : Nat → Nat), M b = some (.cells #[.int .i64 (nd.num : Nat), .int .i64 nd.op, .string (bs nd.s), .slice A nd.l.length c] 118 (0, 0)) ∧ (∀ j, (h : j < nd.l.length) → ∃ bb o, A = some ⟨bb, o, none⟩ ∧ cellM M ⟨bb, o + j, none⟩ = some (.pointer (some ⟨bj j, 0, none⟩))) ∧ ∀ j, (h : j < nd.l.length) → NdM M (bj j) nd.l[j] := by
  cases h with
  | mk b num op s l A c bj hb hrow hk => exact ⟨A, c, bj, hb, hrow, hk⟩
theorem ev_eq (nd : Nd) : ev nd = evOp nd.op nd.s (evs nd.l) := by cases nd; simp [ev, Nd.op, Nd.s, Nd.l]
set_option maxRecDepth 100000 in
set_option maxHeartbeats 8000000 in
theorem ask_calls {M : Heap} {ga gm L b c : Nat} {V : Nat → Bs → Bool} {nd : Nd} {A : Option Addr} {bj : Nat → Nat} (hL : L ≤ 10) (hb : M b = some (.cells #[.int .i64 (nd.num : Nat), .int .i64 nd.op, .string (bs nd.s), .slice A nd.l.length c] 118 (0, 0)))
    (hrow : ∀ j, (h : j < nd.l.length) → ∃ bb o, A = some ⟨bb, o, none⟩ ∧ cellM M ⟨bb, o + j, none⟩ = some (.pointer (some ⟨bj j, 0, none⟩))) (hl : nd.l.length ≤ 1000000)
    (hk : ∀ j, (h : j < nd.l.length) → HSp 38 M ga gm V nd.l[j] (bj j) L) (hop : nd.op = 0 ∨ nd.op = 4 ∨ (nd.op = 13 ∧ nd.l.length = 2)) : HSp 78 M ga gm V nd b L := by
  intro u w hu hM hA
  have hz := bs_size u
  have hzt := bs_toList u
  have hzs := bs_toList nd.s
  obtain ⟨hga, hgm⟩ := hA.lt
  have hc1 : cellM M ⟨b, 1, none⟩ = some (.int .i64 nd.op) := by simp [cellM, hb]
  have hc2 : cellM M ⟨b, 2, none⟩ = some (.string (bs nd.s)) := by simp [cellM, hb]
  have hc3 : cellM M ⟨b, 3, none⟩ = some (.slice A nd.l.length c) := by simp [cellM, hb]
  have HE' := Hid.mk (ev_eq nd)
  obtain ⟨hx0, hx1⟩ := two_boxesH hM #[.pointer (some ⟨ga, 0, none⟩)] #[.string (bs u)] 64 9
  have hM2 := (hM.alloc (.cells #[.pointer (some ⟨ga, 0, none⟩)] 64)).alloc (.cells #[.string (bs u)] 9)
  have hx0 := hx0.alloc (.cells #[.func (.func 116) #[] #[.pointer (some ⟨w.heap.size, 0, none⟩), .pointer (some ⟨w.heap.size + 1, 0, none⟩)]] 165)
  have hx1 := hx1.alloc (.cells #[.func (.func 116) #[] #[.pointer (some ⟨w.heap.size, 0, none⟩), .pointer (some ⟨w.heap.size + 1, 0, none⟩)]] 165)
  have hM3 := hM2.alloc (.cells #[.func (.func 116) #[] #[.pointer (some ⟨w.heap.size, 0, none⟩), .pointer (some ⟨w.heap.size + 1, 0, none⟩)]] 165)
  have hA3 := ((hA.alloc (.cells #[.pointer (some ⟨ga, 0, none⟩)] 64)).alloc (.cells #[.string (bs u)] 9)).alloc (.cells #[.func (.func 116) #[] #[.pointer (some ⟨w.heap.size, 0, none⟩), .pointer (some ⟨w.heap.size + 1, 0, none⟩)]] 165)
  have hK3 := (((Kp.refl [gm] w).alloc (.cells #[.pointer (some ⟨ga, 0, none⟩)] 64)).alloc (.cells #[.string (bs u)] 9)).alloc (.cells #[.func (.func 116) #[] #[.pointer (some ⟨w.heap.size, 0, none⟩), .pointer (some ⟨w.heap.size + 1, 0, none⟩)]] 165)
  clear hM2
  have HR := Hid.mk hrow
  have HK := Hid.mk hk
  have HB := Hid.mk hb
  clear hrow hk hb
  go_enter Tryz.func78, Tryz.ntmps78
  go_upto_region 2 with fail
  generalize ((w.alloc (.cells #[.pointer (some ⟨ga, 0, none⟩)] 64)).alloc (.cells #[.string (bs u)] 9)).alloc (.cells #[.func (.func 116) #[] #[.pointer (some ⟨w.heap.size, 0, none⟩), .pointer (some ⟨w.heap.size + 1, 0, none⟩)]] 165) = w3 at *
  have q0 : w3.cell? ⟨w.heap.size, 0, none⟩ = some (.pointer (some ⟨ga, 0, none⟩)) := hx0.cell 0
  have q1 : w3.cell? ⟨w.heap.size + 1, 0, none⟩ = some (.string (bs u)) := hx1.cell 0
  have q2 := hM3.cell hc1
  have q3 := hM3.cell hc2
  have q4 := hM3.cell hc3
  have HH := Hid.mk (And.intro hx0 (And.intro hx1 (And.intro hM3 (And.intro hA3 hK3))))
  clear hx0 hx1 hM3 hA3 hK3
  rcases hop with hop | hop | ⟨hop, hl2⟩
  · have b0 : (nd.op == 0) = true := by rw [hop]; rfl
    have HX : Hid ((u == nd.s) = ev nd u) := Hid.mk (by rw [HE'.out, hop]; rfl)
    clear hop
    go_wp2_with fail
    go_quiet (fail)
    go_wp2_with fail
    go_ret
    exact ⟨ret_bool HX.out, HH.out.2.2.1.drewN _, HH.out.2.2.2.1.kp ((Kp.refl [] _).drewN _) (by simp) (by simp), HH.out.2.2.2.2.drewN _⟩
  · have b0 : (nd.op == 0) = false := by rw [hop]; rfl
    have b1 : (nd.op == 1) = false := by rw [hop]; rfl
    have b2 : (nd.op == 2) = false := by rw [hop]; rfl
    have b4 : (nd.op == 4) = true := by rw [hop]; rfl
    have HX : Hid (chainB (evs nd.l) u = ev nd u) := Hid.mk (by rw [HE'.out, hop]; rfl)
    clear hop
    go_wp2_with fail
    go_region_held3 (fun w' => w'.cell? ⟨w.heap.size, 0, none⟩ = some (.pointer (some ⟨ga, 0, none⟩)) ∧ w'.cell? ⟨w.heap.size + 1, 0, none⟩ = some (.string (bs u)) ∧ w'.cell? ⟨b, 3, none⟩ = some (.slice A nd.l.length c)) (go_keep) (first | (go_at_call 117; refine (chain_calls (by omega) HR.out HK.out hl u w3.drew hu HH.out.2.2.1.drew (HH.out.2.2.2.1.kp ((Kp.refl [] _).drew) (by simp) (by simp))).mono ?_; rintro e w5 ⟨rfl, hM5, hA5, hk5⟩; have HZ := Hid.mk (And.intro hM5 (And.intro hA5 (HH.out.2.2.2.2.drew.trans hk5))); have z0 : w5.cell? ⟨w.heap.size, 0, none⟩ = some (.pointer (some ⟨ga, 0, none⟩)) := ((Box.drew HH.out.1).same hk5 (by simp; omega)).cell 0; have z1 : w5.cell? ⟨w.heap.size + 1, 0, none⟩ = some (.string (bs u)) := ((Box.drew HH.out.2.1).same hk5 (by simp; omega)).cell 0; have z2 := HZ.out.1.cell hc3; clear hM5 hA5 hk5))
    go_wp2_with fail
    go_ret
    exact ⟨ret_bool HX.out, HZ.out.1, HZ.out.2.1, HZ.out.2.2⟩
  · have b0 : (nd.op == 0) = false := by rw [hop]; rfl
    have b1 : (nd.op == 1) = false := by rw [hop]; rfl
    have b2 : (nd.op == 2) = false := by rw [hop]; rfl
    have b4 : (nd.op == 4) = false := by rw [hop]; rfl
    have b5 : (nd.op == 5) = false := by rw [hop]; rfl
    have b6 : (nd.op == 6) = false := by rw [hop]; rfl
    have b7 : (nd.op == 7) = false := by rw [hop]; rfl
    have b8 : (nd.op == 8) = false := by rw [hop]; rfl
    have b9 : (nd.op == 9) = false := by rw [hop]; rfl
    have b10 : (nd.op == 10) = false := by rw [hop]; rfl
    have b11 : (nd.op == 11) = false := by rw [hop]; rfl
    have b12 : (nd.op == 12) = false := by rw [hop]; rfl
    have b14 : (nd.op == 14) = false := by rw [hop]; rfl
    have b13 : (nd.op == 13) = true := by rw [hop]; rfl
    have HX : Hid (rowsB 13 (ev (nd.l[0]'(by omega))) (ev (nd.l[1]'(by omega))) u = ev nd u) := Hid.mk (by
      rw [HE'.out, hop, evs_map]
      have : evOp 13 nd.s (nd.l.map ev) u = rowsB 13 (nth (nd.l.map ev) 0) (nth (nd.l.map ev) 1) u := rfl
      rw [this]
      have e : ∀ j, (h : j < nd.l.length) → nth (nd.l.map ev) j = ev nd.l[j] := fun j h => by
        unfold nth
        rw [List.getD_eq_getElem?_getD, List.getElem?_map, List.getElem?_eq_getElem h]; rfl
      rw [e 0 (by omega), e 1 (by omega)])
    obtain ⟨bb, o, rfl, k0⟩ := HR.out 0 (by omega)
    obtain ⟨bb', o', hbb, k1⟩ := HR.out 1 (by omega)
    injection hbb with hbb
    injection hbb with hb1 hb2
    subst hb1 hb2
    have hb := HB.out
    rw [hop, hl2] at hb
    have HRW := Hid.mk (rows_calls hL hb k0 k1 (HK.out 0 (by omega)) (HK.out 1 (by omega)) u w3 hu HH.out.2.2.1 HH.out.2.2.2.1)
    clear hop hb k0 k1
    go_wp2_with fail
    refine HRW.out.mono ?_
    rintro e w5 ⟨rfl, hM5, hA5, hk5⟩
    have HZ := Hid.mk (And.intro hM5 (And.intro hA5 (HH.out.2.2.2.2.trans hk5)))
    clear hM5 hA5 hk5
    go_wp2_with fail
    go_ret
    exact ⟨ret_bool HX.out, HZ.out.1, HZ.out.2.1, HZ.out.2.2⟩
/-- Nodes that are asked of here: symbols, chains, ignore. -/
def Okn : Nat → Nd → Prop
  | 0, _ => False
  | d + 1, nd => (nd.op = 0 ∨ nd.op = 4 ∨ (nd.op = 13 ∧ nd.l.length = 2)) ∧ nd.l.length ≤ 1000000 ∧ ∀ x ∈ nd.l, Okn d x
theorem Holds_calls {M : Heap} {ga gm L : Nat} {V : Nat → Bs → Bool} (hL : L ≤ 10) : ∀ (d : Nat) (nd : Nd) (b : Nat), NdM M b nd → Nums V d nd → Okn d nd → HSp 38 M ga gm V nd b L := by
  intro d
  induction d with
  | zero => intro nd b _ _ h; exact h.elim
  | succ d ih =>
    intro nd b hn hv ho
    obtain ⟨A, c, bj, hb, hrow, hk⟩ := hn.cells
    obtain ⟨h1, h2, h3⟩ := ho
    refine Holds_of_ask (d := d + 1) (by omega) hn hv (ask_calls hL hb hrow h2 (fun j hj => ih _ _ (hk j hj) ?_ (h3 _ (List.getElem_mem hj))) h1)
    cases nd with
    | mk num op s l => exact hv.2.2 _ (List.getElem_mem hj)
end Go.Proofs.YtgdnhlckodhhgaaGreatDoor

/-
  graph.place, graph.Word; words of numbers as bytes.
-/
namespace Go.Proofs.YtgdnhlckodhhgaaGreatDoor
open Go.RowKit
set_option linter.unusedVariables false
set_option linter.unusedSimpArgs false
def placeI (ss : List Bs) (x : Bs) : Int := if bsF ss x = true then (bsK ss x : Nat) else -1
set_option maxHeartbeats 400000 in
theorem place_calls {ss : List Bs} {M : Heap} {A : Option Addr} {c : Nat} (h : WsM M A ss) (hl : ss.length ≤ 1000000) (x : Bs) (w : World) (hM : Mem w M) :
    Calls Tryz.prog 72 #[.slice A ss.length c, .string (bs x)] w fun e w' => e = .returned (.int .i64 (placeI ss x)) ∧ w = w' := by
  have H := Hid.mk (BinarySearch_calls (c := c) h hl x w hM)
  clear h
  cases hF : bsF ss x with
  | true =>
    have HX := Hid.mk (show placeI ss x = (bsK ss x : Nat) by rw [placeI, hF]; rfl)
    rw [hF] at H
    clear hF
    go_enter Tryz.func72, Tryz.ntmps72
    go_wp2_with fail
    refine H.out.mono ?_
    rintro e w' ⟨rfl, rfl⟩
    go_wp2_with fail
    go_ret
    rw [HX.out]
    exact ⟨rfl, rfl⟩
  | false =>
    have HX := Hid.mk (show placeI ss x = -1 by rw [placeI, hF]; rfl)
    rw [hF] at H
    clear hF
    go_enter Tryz.func72, Tryz.ntmps72
    go_wp2_with fail
    refine H.out.mono ?_
    rintro e w' ⟨rfl, rfl⟩
    go_wp2_with fail
    go_ret
    rw [HX.out]
    exact ⟨rfl, rfl⟩
end Go.Proofs.YtgdnhlckodhhgaaGreatDoor

/-
  graph.Word: a word as numbers.
-/
namespace Go.Proofs.YtgdnhlckodhhgaaGreatDoor
open Go.RowKit
set_option linter.unusedVariables false
set_option linter.unusedSimpArgs false
theorem Tryz.infoI : (Tryz.prog.info? 3).map (fun i => (i.zero, i.size, i.bytes)) = some (some (.int .i64 0), 1, 8) := by kernel_rfl
def ints (ks : List Nat) : List Value := ks.map fun (k : Nat) => Value.int .i64 (k : Int)
/-- A word as numbers, if all its symbols are there. -/
def wordK (ss : List Bs) : List Bs → Option (List Nat)
  | [] => some []
  | x :: ws => if bsF ss x = true then (wordK ss ws).map (fun ks => bsK ss x :: ks) else none
def wkGo (ss ws : List Bs) : List Nat := ws.map (bsK ss)
theorem wordK_all {ss ws : List Bs} (h : ∀ x ∈ ws, bsF ss x = true) : wordK ss ws = some (wkGo ss ws) := by
  induction ws with
  | nil => rfl
  | cons x ws ih => rw [wordK, if_pos (h x (by simp)), ih (fun y hy => h y (by simp [hy]))]; rfl
theorem wordK_none {ss ws : List Bs} {x : Bs} (hx : x ∈ ws) (h : bsF ss x = false) : wordK ss ws = none := by
  induction ws with
  | nil => cases hx
  | cons y ws ih =>
    rw [wordK]
    by_cases hy : bsF ss y = true
    · rw [if_pos hy]
      rcases List.mem_cons.1 hx with rfl | hx
      · rw [h] at hy; cases hy
      · rw [ih hx]; rfl
    · rw [if_neg hy]
theorem int_cells {w : World} {b : Nat} {k : Int} {t : TypeId} (h : w.heap[b]? = some (.cells #[.int .i64 k] t (0, 0))) : ∀ j v, [Value.int .i64 k][j]? = some v → w.cell? ((⟨b, 0, none⟩ : Addr).add j) = some v := by
  intro j v hv
  have e : (⟨b, 0, none⟩ : Addr).add j = ⟨b, j, none⟩ := by unfold Addr.add; split <;> simp_all
  rw [e]
  simp only [World.cell?, h, Option.isSome_none, Bool.false_eq_true, if_false]
  match j, hv with
  | 0, hv => exact hv
  | j + 1, hv => simp at hv
theorem int_one {k : Int} : ∀ v ∈ [Value.int .i64 k], v.oneCell' = true := by
  intro v hv
  simp at hv
  subst hv; rfl
theorem sl_room {w : World} {M : Heap} {g cap : Nat} {cs : Array Value} {t : TypeId} (hb : w.heap[g]? = some (.cells cs t (0, 0))) (hM : M g = none) (hs : cs.size = cap) (hc : cap ≤ maxLen) : Sl w M t 1 g 0 cap [] :=
  ⟨⟨rfl, .inr ⟨g, cap, cs, rfl, Nat.zero_le _, hb, Nat.zero_le _, hc, by omega, by simp⟩⟩, hM⟩
/-- How Word ends. -/
def WEnd (w : World) (M : Heap) (o : Option (List Nat)) (e : Ending) (w' : World) : Prop := Kp [] w w' ∧ Mem w' M ∧ match o with
  | none => e = .returned (.tuple #[.slice none 0 0, .bool false])
  | some ks => ∃ g cap, e = .returned (.tuple #[.slice (some ⟨g, 0, none⟩) ks.length cap, .bool true]) ∧ Sl w' M 3 1 g ks.length cap (ints ks) ∧ w.heap.size ≤ g
set_option maxRecDepth 100000 in
set_option maxHeartbeats 4000000 in
theorem Word_calls {ss ws : List Bs} {M : Heap} {A B : Option Addr} {c d : Nat} (h : WsM M A ss) (hl : ss.length ≤ 1000000) (hw : WsM M B ws) (hlw : ws.length ≤ 1000000) (w : World) (hM : Mem w M) :
    Calls Tryz.prog 34 #[.slice A ss.length c, .slice B ws.length d] w (WEnd w M (wordK ss ws)) := by
  obtain ⟨i0, hi, hzz⟩ := Option.map_eq_some_iff.1 Tryz.infoI
  simp only [Prod.mk.injEq] at hzz
  obtain ⟨hz0, hz1, hz2⟩ := hzz
  have HI := Hid.mk (And.intro hi (And.intro hz0 (And.intro hz1 hz2)))
  have hmk : ∀ w, (Instr.makeSlice 60 (.int .i64 0) (.int .i64 (ws.length : Int))).run Tryz.prog w = .ok (.slice (some ⟨w.heap.size, 0, none⟩) 0 ws.length) (w.alloc (.cells (madeCells #[Value.int .i64 0] ws.length) 3)) := fun w => run_make_room (P := Tryz.prog) 60 3 (.int .i64 0) 8 Tryz.underlying60 Tryz.infoI rfl .i64 .i64 ws.length (by omega) (by omega) w
  have HH := Hid.mk h
  have HW := Hid.mk hw
  clear hi hz0 hz1 hz2 h hw
  go_enter Tryz.func34, Tryz.ntmps34
  go_wp2_with fail
  clear hmk
  have hsl0 : Sl (w.alloc (.cells (madeCells #[Value.int .i64 0] ws.length) 3)) M 3 1 w.heap.size 0 ws.length [] := sl_room (heap_alloc_new _ _) hM.new (by simp [madeCells]) (by unfold maxLen; omega)
  go_loopg [6, 15] ws.length (fun kk v6 v wr => ∃ (j g cap : Nat), j ≤ ws.length ∧ kk = ws.length - j ∧ v6 = .slice (some ⟨g, 0, none⟩) j cap ∧ v = .int .i64 (j : Nat) ∧ Hid (∀ x ∈ ws.take j, bsF ss x = true) ∧ Hid (Sl wr M 3 1 g j cap (ints (wkGo ss (ws.take j)))) ∧ w.heap.size ≤ g ∧ Mem wr M ∧ Kp [] w wr)
  case atStart => exact ⟨0, w.heap.size, ws.length, Nat.zero_le _, by simp, rfl, rfl, Hid.mk (fun x hx => by simp at hx), Hid.mk (by simpa [ints, wkGo] using hsl0), Nat.le_refl _, hM.alloc _, (Kp.refl _ _).alloc _⟩
  case round =>
    clear hsl0
    obtain ⟨j, g, cap, hj, hkk, rfl, rfl, HA, HS, hg, hM', hK⟩ := hrel
    by_cases hlt : j < ws.length
    · obtain ⟨bb, o, rfl, hcell⟩ := HW.out.place (by omega)
      have q := hM'.cell (hcell j hlt)
      have hxt := bs_toList ws[j]
      have HP := Hid.mk (place_calls (c := c) HH.out hl ws[j] wr hM')
      have HT := Hid.mk (show ws.take (j + 1) = ws.take j ++ [ws[j]] from (List.take_append_getElem hlt).symm)
      cases hF : bsF ss ws[j] with
      | true =>
        have HF := Hid.mk hF
        have hpI : placeI ss ws[j] = (bsK ss ws[j] : Nat) := by rw [placeI, hF]; rfl
        rw [hpI] at HP
        obtain ⟨kj, hkj⟩ : ∃ kj, kj = bsK ss ws[j] := ⟨_, rfl⟩
        rw [← hkj] at HP
        have HKJ := Hid.mk hkj
        have hbig : (j + 1 ≤ maxLen) ∧ (j + 1) * 8 ≤ 140737488355328 := by unfold maxLen; omega
        have HBG := Hid.mk hbig
        have hlts := HS.out.lt
        have HMK := Hid.mk (And.intro hM' hK)
        clear hF hpI hkj hbig hM' hK hcell
        go_wp2_with (first | (go_at_call 72; refine HP.out.mono ?_; rintro e w' ⟨rfl, rfl⟩) | (at_builtin; go_must (refine wpList_append_lies _ rfl (.tmp 24) (.tmp 26) 60 rfl 0 3 i0 _ 1 8 Tryz.underlying60 HI.out.1 HI.out.2.1 HI.out.2.2.1 HI.out.2.2.2 rfl (Nat.succ_pos 0) _ j (ints (wkGo ss (ws.take j))) rfl (HS.out.alloc _).own ⟨_, 0, none⟩ 1 1 [.int .i64 (kj : Nat)] rfl rfl (int_cells (heap_alloc_new _ _)) int_one Nat.one_pos HBG.out.1 HBG.out.2 (Nat.zero_le _) _ (by simp; rfl) ?_); intro g1 cap1 w5 hown5 hgr5 hat5 hlt5))
        have hk5 := Kp.of_grown hgr5
        have hat' : (some g : Option Nat) = some g1 ∨ g1 = wr.heap.size + 1 := hat5
        clear hat5
        simp only [Option.some.injEq] at hat'
        have hw := HMK.out.2.size
        go_roundg (ws.length - (j + 1))
        case measure => omega
        case rel =>
          refine ⟨j + 1, g1, cap1, by omega, rfl, rfl, by go_num, Hid.mk ?_, Hid.mk ⟨?_, ?_⟩, by omega, (HMK.out.1.alloc _).kp hk5 (by simpa using HS.out.out), (HMK.out.2.alloc _).inner hk5 (by simp; omega)⟩
          · intro x hx
            rw [HT.out] at hx
            rcases List.mem_append.1 hx with h | h
            · exact HA.out x h
            · rw [List.mem_singleton.1 h]; exact HF.out
          · have e : ints (wkGo ss (ws.take (j + 1))) = ints (wkGo ss (ws.take j)) ++ [Value.int .i64 (kj : Nat)] := by
              rw [HKJ.out, wkGo, HT.out, List.map_append]
              simp only [ints, wkGo, List.map_append, List.map_cons, List.map_nil]
            rw [e]; exact hown5
          · rcases hat' with h | h
            · rw [← h]; exact HS.out.out
            · rw [h]; exact HMK.out.1.ge (by omega)
      | false =>
        have HX := Hid.mk (wordK_none (List.getElem_mem hlt) hF)
        have hpI : placeI ss ws[j] = -1 := by rw [placeI, hF]; rfl
        rw [hpI] at HP
        clear hF hpI hcell
        go_wp2_with (go_at_call 72; refine HP.out.mono ?_; rintro e w' ⟨rfl, rfl⟩)
        go_ret2
        refine ⟨hK, hM', ?_⟩
        rw [HX.out]
        rfl
    · obtain rfl : j = ws.length := by omega
      have hlt' : ¬ ((ws.length : Int) < (ws.length : Int)) := by omega
      have HA2 : ∀ x ∈ ws, bsF ss x = true := by have := HA.out; rwa [List.take_length] at this
      have HX := Hid.mk (wordK_all HA2)
      clear HA2
      go_wp2_with fail
      go_ret2
      have hS := HS.out
      rw [List.take_length] at hS
      refine ⟨hK, hM', ?_⟩
      rw [HX.out]
      exact ⟨g, cap, by simp [wkGo], by simpa [wkGo] using hS, hg⟩
end Go.Proofs.YtgdnhlckodhhgaaGreatDoor

/-
  Words of numbers as bytes.
-/
namespace Go.Proofs.YtgdnhlckodhhgaaGreatDoor
open Go.RowKit
set_option linter.unusedVariables false
set_option linter.unusedSimpArgs false
theorem Tryz.infoU8 : (Tryz.prog.info? 5).map (fun i => (i.zero, i.size, i.bytes)) = some (some (.int .u8 0), 1, 1) := by kernel_rfl
def byts (ks : List Nat) : List Value := ks.map fun (k : Nat) => Value.int .u8 (k : Int)
def toBs (ks : List Nat) : Bs := ks.map UInt8.ofNat
theorem own_alloc {w : World} {e : TypeId} {size n : Nat} {v : Value} {xs : List Value} (h : w.ownsRow 0 e size v n xs) (o : Obj) : (w.alloc o).ownsRow 0 e size v n xs := by
  obtain ⟨h1, h2⟩ := h
  refine ⟨h1, ?_⟩
  rcases h2 with h2 | ⟨g, cap, cur, h2, h0, h3, r⟩
  · exact .inl h2
  · exact .inr ⟨g, cap, cur, h2, h0, (Below.heap_alloc _ _ _ (Array.getElem?_eq_some_iff.1 h3).1).trans h3, r⟩
theorem u8_cells {w : World} {b : Nat} {k : Int} {t : TypeId} (h : w.heap[b]? = some (.cells #[.int .u8 k] t (0, 0))) : ∀ j v, [Value.int .u8 k][j]? = some v → w.cell? ((⟨b, 0, none⟩ : Addr).add j) = some v := by
  intro j v hv
  have e : (⟨b, 0, none⟩ : Addr).add j = ⟨b, j, none⟩ := by unfold Addr.add; split <;> simp_all
  rw [e]
  simp only [World.cell?, h, Option.isSome_none, Bool.false_eq_true, if_false]
  match j, hv with
  | 0, hv => exact hv
  | j + 1, hv => simp at hv
theorem u8_one {k : Int} : ∀ v ∈ [Value.int .u8 k], v.oneCell' = true := by
  intro v hv
  simp at hv
  subst hv; rfl
set_option maxRecDepth 100000 in
set_option maxHeartbeats 4000000 in
theorem Bytes_calls {ks : List Nat} {M : Heap} {g cap : Nat} (hk : ∀ k ∈ ks, k < 256) (hl : ks.length ≤ 1000000) (w : World) (hM : Mem w M) (hs : Sl w M 3 1 g ks.length cap (ints ks)) :
    Calls Tryz.prog 40 #[.slice (some ⟨g, 0, none⟩) ks.length cap] w fun e w' => e = .returned (.string (bs (toBs ks))) ∧ Kp [] w w' ∧ Mem w' M := by
  obtain ⟨i0, hi, hzz⟩ := Option.map_eq_some_iff.1 Tryz.infoU8
  simp only [Prod.mk.injEq] at hzz
  obtain ⟨hz0, hz1, hz2⟩ := hzz
  have HI := Hid.mk (And.intro hi (And.intro hz0 (And.intro hz1 hz2)))
  have HS := Hid.mk hs
  have HK := Hid.mk hk
  clear hi hz0 hz1 hz2 hs hk
  go_enter Tryz.func40, Tryz.ntmps40
  go_wp2_with fail
  go_loopg [3, 8] ks.length (fun kk v3 v wr => ∃ (j : Nat), j ≤ ks.length ∧ kk = ks.length - j ∧ v = .int .i64 (j : Nat) ∧ Hid (wr.ownsRow 0 5 1 v3 j (byts (ks.take j))) ∧ Hid (∀ x, v3.ownBlock = some x → w.heap.size ≤ x) ∧ Mem wr M ∧ Kp [] w wr)
  case atStart => exact ⟨0, Nat.zero_le _, by simp, rfl, Hid.mk ⟨rfl, .inl ⟨rfl, rfl⟩⟩, Hid.mk (fun x hx => by simp [Value.ownBlock] at hx), hM, Kp.refl _ _⟩
  case round =>
    obtain ⟨j, hj, hkk, rfl, HO, HB, hM', hK⟩ := hrel
    by_cases hlt : j < ks.length
    · have hsl := HS.out.same hK (by simp)
      have q := hsl.cell (j := j) (v := .int .i64 (ks[j] : Nat)) (by simp [ints, List.getElem?_eq_getElem hlt])
      have hkj := HK.out _ (List.getElem_mem hlt)
      generalize hkje : ks[j] = kj at *
      have hkj0 : (0 : Int) ≤ (kj : Int) := by omega
      have hkj1 : (kj : Int) ≤ 255 := by omega
      have HKJ := Hid.mk hkje
      have hbig : (j + 1 ≤ maxLen) ∧ (j + 1) * 1 ≤ 140737488355328 := by unfold maxLen; omega
      have HBG := Hid.mk hbig
      have HMK := Hid.mk (And.intro hM' hK)
      clear hkje hbig hM' hK hsl
      go_wp2_with (at_builtin; go_must (refine wpList_append_lies _ rfl (.tmp 12) (.tmp 15) 122 rfl 0 5 i0 _ 1 1 Tryz.underlying122 HI.out.1 HI.out.2.1 HI.out.2.2.1 HI.out.2.2.2 rfl (Nat.succ_pos 0) _ j (byts (ks.take j)) rfl (own_alloc HO.out _) ⟨_, 0, none⟩ 1 1 [.int .u8 (kj : Nat)] rfl rfl (u8_cells (heap_alloc_new _ _)) u8_one Nat.one_pos HBG.out.1 HBG.out.2 (Nat.zero_le _) _ (by simp; rfl) ?_); intro g1 cap1 w5 hown5 hgr5 hat5 hlt5)
      have hw := HMK.out.2.size
      go_roundg (ks.length - (j + 1))
      case measure => omega
      case rel =>
        have hgr' : (wr.alloc (.cells #[.int .u8 (kj : Nat)] 5)).grownBy w5 u3.ownBlock := hgr5
        have hat' : u3.ownBlock = some g1 ∨ g1 = wr.heap.size + 1 := hat5
        have hT : ks.take (j + 1) = ks.take j ++ [kj] := by rw [← HKJ.out]; exact (List.take_append_getElem hlt).symm
        have hK5 : Kp [] w w5 := Kp.grown (HMK.out.2.alloc _) hgr' (fun x hx => .inr (HB.out x hx))
        refine ⟨j + 1, by omega, rfl, by go_num, Hid.mk ?_, Hid.mk (fun x hx => ?_), hM.kp hK5 (by simp), hK5⟩
        · rw [hT, byts, List.map_append]
          exact hown5
        · simp only [Value.ownBlock, Option.some.injEq] at hx
          subst hx
          rcases hat' with h | h
          · exact HB.out _ h
          · omega
    · obtain rfl : j = ks.length := by omega
      have hlt' : ¬ ((ks.length : Int) < (ks.length : Int)) := by omega
      have hO := HO.out
      rw [List.take_length] at hO
      clear HO
      obtain ⟨h1, ⟨rfl, h2⟩ | ⟨gg, cc, cur, rfl, h3, h4⟩⟩ := hO
      · have h0 : ks = [] := List.length_eq_zero_iff.1 h2
        have hcv := run_convert_bytes_nil (P := Tryz.prog) wr 122 5 Tryz.underlying122 Tryz.underlying5 0 0 9 Tryz.underlying9
        have HX := Hid.mk (show bs (toBs ks) = ByteArray.empty by rw [h0]; rfl)
        clear h0 h2 h1
        go_wp2_with fail
        go_ret
        rw [HX.out]
        exact ⟨rfl, hK, hM'⟩
      · have hsl : Sl wr (fun _ => none) 5 1 gg ks.length cc (byts ks) := ⟨⟨h1, .inr ⟨gg, cc, cur, rfl, h3, h4⟩⟩, rfl⟩
        have hcv := run_convert_bytes_arg (P := Tryz.prog) wr 122 5 Tryz.underlying122 Tryz.underlying5 gg 0 ks.length cc (ks.map fun (k : Nat) => (k : Int)) (by simp) (fun i hi => by
          rw [Nat.zero_add]
          exact hsl.cell (by simp [byts, List.getElem?_eq_getElem hi])) 9 Tryz.underlying9
        have HX := Hid.mk (show strOfNums (ks.map fun (k : Nat) => (k : Int)) = bs (toBs ks) by
          simp only [strOfNums, bs, toBs, List.map_map]
          congr 1)
        clear h1 h3 h4 hsl
        go_wp2_with fail
        go_ret
        exact ⟨by rw [← HX.out]; rfl, hK, hM'⟩
end Go.Proofs.YtgdnhlckodhhgaaGreatDoor

/-
  syms.Validate of an alphabet that is one; a new asker.
-/
namespace Go.Proofs.YtgdnhlckodhhgaaGreatDoor
open Go.RowKit
set_option linter.unusedVariables false
set_option linter.unusedSimpArgs false
/-- An alphabet. -/
def Alpha (ss : List Bs) : Prop := ss.length ≤ 40 ∧ ss.any long = false ∧ (∀ s ∈ ss, sym s = true) ∧ ∀ i, (h : i + 1 < ss.length) → Op.bytesLess ss[i] ss[i + 1] = true
set_option maxRecDepth 100000 in
set_option maxHeartbeats 2000000 in
theorem Alpha_calls {ss : List Bs} {M : Heap} {A : Option Addr} {c : Nat} (ha : Alpha ss) (h : WsM M A ss) (hc : ss.length ≤ c) (w : World) (hM : Mem w M) :
    Calls Tryz.prog 32 #[.slice A ss.length c] w fun e w' => e = .returned (.int .i64 0) ∧ w = w' := by
  obtain ⟨h1, h2, h3, h4⟩ := ha
  have hlen : ∀ s ∈ ss, s.length ≤ 16 := fun s hs => by
    have := List.any_eq_false.1 h2 s hs
    simp only [long, decide_eq_true_eq] at this
    omega
  have HL := Hid.mk (ContainsFuncS_calls (K := 69) (p := long) (fun s w => by kernel_rfl) isLong_calls ss A c M w hM h (fun s hs => by have := hlen s hs; omega) (by omega) hc)
  rw [h2] at HL
  have HH := Hid.mk h
  have H3 := Hid.mk h3
  have H4 := Hid.mk h4
  have HLN := Hid.mk hlen
  clear h2 h3 h4 h hlen
  go_enter Tryz.func32, Tryz.ntmps32
  go_wp2_with (go_at_call 68; refine HL.out.mono ?_; rintro e w' ⟨rfl, rfl⟩)
  go_loopg [14] ss.length (fun kk v wr => ∃ j : Nat, j ≤ ss.length ∧ kk = ss.length - j ∧ v = .int .i64 (j : Nat) ∧ wr = w)
  case atStart => exact ⟨0, Nat.zero_le _, by simp, rfl, rfl⟩
  case round =>
    obtain ⟨j, hj, hkk, rfl, rfl⟩ := hrel
    by_cases hlt : j < ss.length
    · obtain ⟨bb, o, rfl, hcell⟩ := HH.out.place (by omega)
      have q := hM.cell (hcell j hlt)
      have hs := H3.out _ (List.getElem_mem hlt)
      simp only [sym, Bool.and_eq_true, Bool.not_eq_true'] at hs
      obtain ⟨hs1, hs2⟩ := hs
      have HS := Hid.mk (isSymbol_calls ss[j] wr (by have := HLN.out _ (List.getElem_mem hlt); omega))
      have hyt := bs_toList ss[j]
      cases j with
      | zero =>
        clear hcell
        rw [Nat.add_zero] at q
        go_wp2_with (go_at_call 70; refine HS.out.mono ?_; rintro e w' ⟨rfl, rfl⟩)
        go_roundg (ss.length - 1)
        case measure => omega
        case rel => exact ⟨1, by omega, rfl, by go_num, rfl⟩
      | succ j =>
        have q1 := hM.cell (hcell j (by omega))
        have hxt := bs_toList ss[j]
        have hb := H4.out j hlt
        clear hcell
        go_wp2_with (go_at_call 70; refine HS.out.mono ?_; rintro e w' ⟨rfl, rfl⟩)
        go_roundg (ss.length - (j + 2))
        case measure => omega
        case rel => exact ⟨j + 2, by omega, rfl, by go_num, rfl⟩
    · obtain rfl : j = ss.length := by omega
      have hlt' : ¬ ((ss.length : Int) < (ss.length : Int)) := by omega
      go_wp2_with fail
      go_ret
      exact ⟨rfl, rfl⟩
set_option maxHeartbeats 400000 in
theorem New_calls (w : World) : Calls Tryz.prog 37 #[] w fun e w' => e = .returned (.pointer (some ⟨w.heap.size + 1, 0, none⟩)) ∧ w' = (w.alloc (.map #[] 0)).alloc (.cells #[.map (some w.heap.size), .int .i64 0] 115) := by
  have hmm := @run_makeMap Tryz.prog
  go_enter Tryz.func37, Tryz.ntmps37
  go_wp2_with fail
  go_ret
  exact ⟨rfl, rfl⟩
end Go.Proofs.YtgdnhlckodhhgaaGreatDoor
