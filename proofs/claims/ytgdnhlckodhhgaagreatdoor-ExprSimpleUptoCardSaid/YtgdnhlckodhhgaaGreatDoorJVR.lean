/-
  A list of one or none as what it stands for (shrunk).
-/
import Derived.Test.YtgdnhlckodhhgaaGreatDoorJVQ
import Derived.Test.YtgdnhlckodhhgaaGreatDoorJS1
import Derived.Test.YtgdnhlckodhhgaaGreatDoorJVM
import Derived.Lib.SliceRun
import Derived.Test.YtgdnhlckodhhgaaGreatDoorJVN
import Derived.Test.YtgdnhlckodhhgaaGreatDoorJV40
namespace Go.Proofs.YtgdnhlckodhhgaaGreatDoor
open Go.RowKit
set_option linter.unusedVariables false
set_option linter.unusedSimpArgs false
/-- An expression is handed back, which lies in memory. -/
def XEnd (M : Heap) (x : E) (w : World) (en : Ending) (w' : World) : Prop := ∃ A c, en = .returned (.agg #[.int .i64 x.op, .string (bs x.s), .slice A x.l.length c]) ∧ ExV M x A c ∧ Kp [] w w'
set_option maxRecDepth 100000 in
set_option maxHeartbeats 2000000 in
theorem shrunk_calls {x : E} {none : Int} {A : Option Addr} {c : Nat} {M : Heap} (hx : ExV M x A c) (hl : x.l.length ≤ 1000000) (w : World) (hM : Mem w M) :
    Calls Tryz.prog 84 #[.agg #[.int .i64 x.op, .string (bs x.s), .slice A x.l.length c], .int .i64 none] w (XEnd M (shr none x) w) := by
  have HX := Hid.mk hx
  obtain ⟨hb0, hb1⟩ := two_boxesF hM #[.int .i64 x.op, .string (bs x.s), .slice A x.l.length c] #[.int .i64 0, .string ⟨#[]⟩, .slice .none 0 0] 24 24
  have hk : Kp [] w ((w.alloc (.cells #[.int .i64 x.op, .string (bs x.s), .slice A x.l.length c] 24)).alloc (.cells #[.int .i64 0, .string ⟨#[]⟩, .slice .none 0 0] 24)) := ((Kp.refl [] w).alloc _).alloc _
  have hM2 := (hM.alloc (.cells #[.int .i64 x.op, .string (bs x.s), .slice A x.l.length c] 24)).alloc (.cells #[.int .i64 0, .string ⟨#[]⟩, .slice .none 0 0] 24)
  have HB := Hid.mk (And.intro hb0 (And.intro hb1 (And.intro hk hM2)))
  obtain ⟨⟨p0, p1, p2⟩, _, _, _⟩ := hb0.three
  obtain ⟨⟨z0, z1, z2⟩, f0, f1, f2⟩ := hb1.three
  by_cases h0 : x.l.length = 0
  · have HE : Hid (shr none x = .mk none [] []) := Hid.mk (by unfold shr; rw [List.length_eq_zero_iff.1 h0])
    rw [HE.out]
    have hll : ((x.l.length : Int) == 0) = true := by rw [h0]; rfl
    clear hx hb0 hb1 hk hM2 hM h0 HE
    go_enter Tryz.func84, Tryz.ntmps84
    go_wp2_with fail
    obtain ⟨hb0, hb1, hk, hM2⟩ := HB.out
    obtain ⟨⟨r0, r1, r2⟩, _, _, _⟩ := (hb1.set3 (x' := .int .i64 none) (y' := .string ⟨#[]⟩) (z' := .slice .none 0 0)).three
    refine bodyPost_ret (v := .agg #[.int .i64 none, .string ⟨#[]⟩, .slice .none 0 0]) (by simp [results, Tryz.results84, go_sem, r0, r1, r2]) rfl ?_
    exact ⟨_, _, rfl, ExV.leaf M none [] .none 0, ((Kp.refl [] w).alloc _).alloc _⟩
  · by_cases h1 : x.l.length = 1
    · obtain ⟨y, hy⟩ := one_of h1
      have HE : Hid (shr none x = y) := Hid.mk (by unfold shr; rw [hy])
      rw [HE.out]
      obtain ⟨b, o, rfl⟩ := hx.place (by omega)
      obtain ⟨A', c', k0, k1, k2, hx'⟩ := hx.at_ 0 (by omega)
      have hy0 : x.l[0]'(by omega) = y := by simp [hy]
      rw [hy0] at k0 k1 k2 hx'
      simp only [Nat.zero_mul, Nat.add_zero] at k0 k1 k2
      have q0 := hM2.cell k0
      have q1 := hM2.cell k1
      have q2 := hM2.cell k2
      have hll : ((x.l.length : Int) == 0) = false := by rw [h1]; rfl
      have hll1 : ((x.l.length : Int) == 1) = true := by rw [h1]; rfl
      have hlt : (0 : Int) < (x.l.length : Int) := by omega
      have HX' := Hid.mk hx'
      clear hx hx' hb0 hb1 hk hM2 hM h0 HE k0 k1 k2 hy0 hy h1
      go_enter Tryz.func84, Tryz.ntmps84
      go_wp2_with fail
      obtain ⟨hb0, hb1, hk, hM2⟩ := HB.out
      obtain ⟨⟨r0, r1, r2⟩, _, _, _⟩ := (hb1.set3 (x' := .int .i64 y.op) (y' := .string (bs y.s)) (z' := .slice A' y.l.length c')).three
      refine bodyPost_ret (v := .agg #[.int .i64 y.op, .string (bs y.s), .slice A' y.l.length c']) (by simp [results, Tryz.results84, go_sem, r0, r1, r2]) rfl ?_
      exact ⟨_, _, rfl, HX'.out, ((Kp.refl [] w).alloc _).alloc _⟩
    · have HE : Hid (shr none x = x) := Hid.mk (by
        unfold shr
        match h : x.l, h0, h1 with
        | [], h0, _ => exact absurd rfl h0
        | [_], _, h1 => exact absurd rfl h1
        | _ :: _ :: _, _, _ => rfl)
      rw [HE.out]
      have hll : ((x.l.length : Int) == 0) = false := by rw [beq_eq_false_iff_ne]; omega
      have hll1 : ((x.l.length : Int) == 1) = false := by rw [beq_eq_false_iff_ne]; omega
      clear hx hb0 hb1 hk hM2 hM h0 HE h1
      go_enter Tryz.func84, Tryz.ntmps84
      go_wp2_with fail
      obtain ⟨hb0, hb1, hk, hM2⟩ := HB.out
      obtain ⟨⟨r0, r1, r2⟩, _, _, _⟩ := (hb1.set3 (x' := .int .i64 x.op) (y' := .string (bs x.s)) (z' := .slice A x.l.length c)).three
      refine bodyPost_ret (v := .agg #[.int .i64 x.op, .string (bs x.s), .slice A x.l.length c]) (by simp [results, Tryz.results84, go_sem, r0, r1, r2]) rfl ?_
      exact ⟨_, _, rfl, HX.out, ((Kp.refl [] w).alloc _).alloc _⟩
end Go.Proofs.YtgdnhlckodhhgaaGreatDoor

/-
  What is to be left out of an own row of expressions is left out (slices.DeleteFunc).
-/
namespace Go.Proofs.YtgdnhlckodhhgaaGreatDoor
open Go.RowKit
set_option linter.unusedVariables false
set_option linter.unusedSimpArgs false
abbrev Tri := E × Option Addr × Nat
def isN (p : Tri) : Bool := p.1.op == 2
theorem simpler2_calls {x : E} {A : Option Addr} {c : Nat} (w : World) : Calls Tryz.prog 83 #[.agg #[.int .i64 x.op, .string (bs x.s), .slice A x.l.length c]] w fun en w' => en = .returned (.bool (x.op == 2)) ∧ Kp [] w w' := by
  go_enter Tryz.func83, Tryz.ntmps83
  go_wp2_with fail
  go_ret
  exact ⟨rfl, (Kp.refl _ _).alloc _⟩
theorem simpler2_cf (v : Value) (w : World) : (callFunc 83 #[v]).run Tryz.prog w = .ok (.enter 83 #[v]) w := by kernel_rfl
/-- The first to be left out. -/
def fstN (ps : List Tri) : Int := match ps.findIdx? isN with | some i => (i : Int) | none => -1
theorem fstN_some {ps : List Tri} {i : Nat} (h : i < ps.length) (h1 : (ps.take i).all (fun p => !isN p) = true) (h2 : isN ps[i] = true) : fstN ps = i := by
  have : ps.findIdx? isN = some i := by
    rw [List.findIdx?_eq_some_iff_getElem]
    refine ⟨h, h2, fun j hj => ?_⟩
    rw [List.all_eq_true] at h1
    have := h1 ps[j] (by rw [List.mem_iff_getElem]; exact ⟨j, by rw [List.length_take]; omega, by simp⟩)
    simpa using this
  unfold fstN
  rw [this]
theorem fstN_none {ps : List Tri} (h1 : ps.all (fun p => !isN p) = true) : fstN ps = -1 := by
  have : ps.findIdx? isN = none := by
    rw [List.findIdx?_eq_none_iff]
    intro x hx
    rw [List.all_eq_true] at h1
    simpa using h1 x hx
  unfold fstN
  rw [this]
set_option maxRecDepth 100000 in
set_option maxHeartbeats 2000000 in
theorem IdxN_calls {ps : List Tri} {M : Heap} {g cap : Nat} (w : World) (hs : Sl w M 24 3 g ps.length cap (flat ps)) (hp : 0 < ps.length) (hl : ps.length ≤ 1000000) :
    Calls Tryz.prog 115 #[.slice (some ⟨g, 0, none⟩) ps.length cap, .func (.func 83) #[] #[]] w fun en w' => en = .returned (.int .i64 (fstN ps)) ∧ Kp [] w w' := by
  have HS := Hid.mk (fun w' (k : Kp [] w w') => hs.same k (by simp))
  clear hs
  go_enter Tryz.func115, Tryz.ntmps115
  go_wp2_with fail
  go_loopg [8] ps.length (fun k v8 wr => ∃ j : Nat, j ≤ ps.length ∧ k = ps.length - j ∧ v8 = .int .i64 (j : Nat) ∧ Hid ((ps.take j).all (fun p => !isN p) = true) ∧ Kp [] w wr)
  case atStart => exact ⟨0, Nat.zero_le _, by simp, rfl, Hid.mk (by simp), Kp.refl _ _⟩
  case round =>
    obtain ⟨j, hj, hk, rfl, HJ, hK'⟩ := hrel
    by_cases hlt : j < ps.length
    · have hsl := HS.out _ hK'
      obtain ⟨h0, h1, h2⟩ := flat_get ps j hlt
      have q0 := hsl.cell h0
      have q1 := hsl.cell h1
      have q2 := hsl.cell h2
      have HK := Hid.mk hK'
      have HT := Hid.mk (alls_take (p := fun p => !isN p) hlt)
      have hcf := fun w => simpler2_cf (.agg #[.int .i64 ps[j].1.op, .string (bs ps[j].1.s), .slice ps[j].2.1 ps[j].1.l.length ps[j].2.2]) w
      clear hsl h0 h1 h2 hK'
      cases hc : (ps[j].1.op == 2) with
      | true =>
        have HF : Hid (fstN ps = (j : Int)) := Hid.mk (fstN_some hlt HJ.out hc)
        have HC := Hid.mk (simpler2_calls (x := ps[j].1) (A := ps[j].2.1) (c := ps[j].2.2) wr)
        rw [hc] at HC
        clear hc
        go_wp2_with fail
        (with_reducible refine HC.out.mono ?_)
        rintro en w2 ⟨rfl, hk2⟩
        have HK2 := Hid.mk (HK.out.trans hk2)
        clear hk2 q0 q1 q2
        go_wp2_with fail
        go_ret
        exact ⟨ret_int HF.out.symm, HK2.out⟩
      | false =>
        have HC := Hid.mk (simpler2_calls (x := ps[j].1) (A := ps[j].2.1) (c := ps[j].2.2) wr)
        rw [hc] at HC
        have HD : Hid (isN ps[j] = false) := Hid.mk hc
        clear hc
        go_wp2_with fail
        (with_reducible refine HC.out.mono ?_)
        rintro en w2 ⟨rfl, hk2⟩
        have HK2 := Hid.mk (HK.out.trans hk2)
        clear hk2 q0 q1 q2
        go_wp2_with fail
        go_roundg (ps.length - (j + 1))
        case measure => omega
        case rel => exact ⟨j + 1, by omega, rfl, by go_num, Hid.mk (by rw [HT.out, HJ.out, HD.out]; rfl), HK2.out⟩
    · obtain rfl : j = ps.length := by omega
      have hlt' : ¬ ((ps.length : Int) < (ps.length : Int)) := by omega
      have HX : Hid (fstN ps = -1) := Hid.mk (fstN_none (by have := HJ.out; rwa [List.take_length] at this))
      have HK := Hid.mk hK'
      clear hK'
      go_wp2_with fail
      go_ret
      exact ⟨ret_int HX.out.symm, HK.out⟩
end Go.Proofs.YtgdnhlckodhhgaaGreatDoor

/-
  slices.DeleteFunc over an own row of expressions.
-/
namespace Go.Proofs.YtgdnhlckodhhgaaGreatDoor
open Go.RowKit
set_option linter.unusedVariables false
set_option linter.unusedSimpArgs false
theorem memN (w : World) : Mem w (fun _ => none) := fun b o h => by cases h
theorem run_zero_expr (w : World) : (zeroValue 24).run Tryz.prog w = .ok (.agg #[.int .i64 0, .string ⟨#[]⟩, .slice none 0 0]) w := by
  obtain ⟨i, hi, hz⟩ := Option.map_eq_some_iff.1 Tryz.infoE
  simp only [Prod.mk.injEq] at hz
  simp [zeroValue, typeInfo, hi, hz.1, Sem.run]
/-- The cells of so many zero values. -/
def zsE (n : Nat) : List Value := (Builtin.zeroCells #[.int .i64 0, .string ⟨#[]⟩, .slice none 0 0] n).toList
theorem zsE_len (n : Nat) : (zsE n).length = n * 3 := by simp [zsE, Builtin.zeroCells]
theorem zsE_one (n : Nat) : ∀ v ∈ zsE n, v.oneCell' = true := by
  intro v hv
  simp only [zsE, Builtin.zeroCells, Array.toList_map, List.mem_map, Array.toList_range] at hv
  obtain ⟨i, _, rfl⟩ := hv
  have hs : (#[Value.int .i64 0, Value.string ⟨#[]⟩, Value.slice none 0 0] : Array Value).size = 3 := rfl
  rw [hs]
  have h3 : i % 3 = 0 ∨ i % 3 = 1 ∨ i % 3 = 2 := by omega
  rcases h3 with h | h | h <;> rw [h] <;> rfl
theorem run_clear_expr (w : World) (ty : TypeId) (b o n c : Nat) (hn : 0 < n) (hc : ∀ j, j < n * 3 → (w.cell? ⟨b, o + j, none⟩).isSome = true) (hf : ∀ j, j < n * 3 → w.frozen? ⟨b, o + j, none⟩ = false) :
    (Builtin.clear_ #[22] ty #[.slice (some ⟨b, o, none⟩) n c]).run Tryz.prog w = .ok (.tuple #[]) (w.setCells b o (zsE n)) := by
  have ht : Tryz.prog.underlying 22 = some (.slice 24) := Tryz.underlying22
  have hst := run_storeCells_cells (P := Tryz.prog) b o (zsE n) 0 w (by simpa [zsE_len] using hc) (by simpa [zsE_len] using hf) (zsE_one n)
  simp only [Nat.add_zero] at hst
  have hzc : (Builtin.zeroCells (Value.agg #[.int .i64 0, .string ⟨#[]⟩, .slice none 0 0]).cells n).toList = zsE n := rfl
  obtain ⟨m, rfl⟩ : ∃ m, n = m + 1 := ⟨n - 1, by omega⟩
  simp [Builtin.clear_, run_underlying ht, run_zero_expr, hzc, hst]
theorem ownb_cut {w : World} {base size n i g cap : Nat} {e : TypeId} {xs : List Value} (h : w.ownsRow base e size (.slice (some ⟨g, 0, none⟩) n cap) n xs) (hi : i ≤ n) : w.ownsRow base e size (.slice (some ⟨g, 0, none⟩) i cap) i (xs.take (i * size)) := by
  obtain ⟨h1, h2⟩ := h
  rcases h2 with ⟨h2, _⟩ | ⟨g', cap', cur, h2, h0, h3, h4, h5, h6, h7⟩
  · cases h2
  · injection h2 with h8 h9 h10
    injection h8 with h8
    injection h8 with h8
    subst h8; subst h10
    have hm : i * size ≤ n * size := Nat.mul_le_mul_right _ hi
    refine ⟨by rw [List.length_take, h1]; exact Nat.min_eq_left hm, .inr ⟨g, cap, cur, rfl, h0, h3, by omega, h5, h6, ?_⟩⟩
    rw [← h7, List.take_take, Nat.min_eq_left hm]
theorem ownb_past {base size n g cap : Nat} {e : TypeId} {xs : List Value} : ∀ (vs : List Value) (o : Nat) (w : World), w.ownsRow base e size (.slice (some ⟨g, 0, none⟩) n cap) n xs → xs.length ≤ o → (w.setCells g o vs).ownsRow base e size (.slice (some ⟨g, 0, none⟩) n cap) n xs
  | [], _, _, h, _ => h
  | v :: r, o, w, h, ho => by
    have h1 := ownb_set h o v
    rw [List.set_eq_of_length_le ho] at h1
    exact ownb_past r (o + 1) _ h1 (by omega)
theorem kp_past {g : Nat} : ∀ (vs : List Value) (o : Nat) (w0 w : World), Kp [g] w0 w → Kp [g] w0 (w.setCells g o vs)
  | [], _, _, _, h => h
  | v :: r, o, w0, w, h => kp_past r (o + 1) w0 _ (h.setCell (.inl (by simp)) v)
theorem flat_set (ps : List Tri) (i : Nat) (p : Tri) : (((flat ps).set (i * 3) (.int .i64 p.1.op)).set (i * 3 + 1) (.string (bs p.1.s))).set (i * 3 + 2) (.slice p.2.1 p.1.l.length p.2.2) = flat (ps.set i p) := by
  induction ps generalizing i with
  | nil => simp [flat]
  | cons a ps ih =>
    have e : flat (a :: ps) = .int .i64 a.1.op :: .string (bs a.1.s) :: .slice a.2.1 a.1.l.length a.2.2 :: flat ps := by simp [flat]
    rw [e]
    cases i with
    | zero => simp [flat]
    | succ i =>
      have := ih i
      rw [List.set_cons_succ]
      have e2 : flat (a :: ps.set i p) = .int .i64 a.1.op :: .string (bs a.1.s) :: .slice a.2.1 a.1.l.length a.2.2 :: flat (ps.set i p) := by simp [flat]
      rw [e2, ← this, show (i + 1) * 3 = i * 3 + 1 + 1 + 1 by omega, show i * 3 + 1 + 1 + 1 + 1 = (i * 3 + 1) + 1 + 1 + 1 by omega, show i * 3 + 1 + 1 + 1 + 2 = (i * 3 + 2) + 1 + 1 + 1 by omega]
      simp
def keep (ps : List Tri) : List Tri := ps.filter fun p => !isN p
theorem keep_snoc {ps : List Tri} {j : Nat} (h : j < ps.length) : keep (ps.take (j + 1)) = keep (ps.take j) ++ (if isN ps[j] then [] else [ps[j]]) := by
  unfold keep
  rw [List.take_succ_eq_append_getElem h, List.filter_append]
  congr 1
  cases hb : isN ps[j] <;> simp [hb]
theorem keep_len (ps : List Tri) : (keep ps).length ≤ ps.length := List.length_filter_le _ _
/-- What DeleteFunc leaves. -/
def DelEnd (M : Heap) (g cap : Nat) (ps : List Tri) (w : World) (en : Ending) (w' : World) : Prop := en = .returned (.slice (some ⟨g, 0, none⟩) (keep ps).length cap) ∧ Sl w' M 24 3 g (keep ps).length cap (flat (keep ps)) ∧ Kp [g] w w'
/-- While it goes over the row. -/
def DelI (w : World) (M : Heap) (g cap : Nat) (ps : List Tri) (i j : Nat) (wr : World) : Prop := ∃ rs : List Tri, rs.length = ps.length ∧ i < j ∧ rs.take i = keep (ps.take j) ∧ rs.drop j = ps.drop j ∧ Sl wr M 24 3 g ps.length cap (flat rs) ∧ Kp [g] w wr
theorem DelI.len {w wr : World} {M : Heap} {g cap i j : Nat} {ps : List Tri} (h : DelI w M g cap ps i j wr) (hj : j ≤ ps.length) : i < j ∧ i = (keep (ps.take j)).length := by
  obtain ⟨rs, h1, h2, h3, _⟩ := h
  refine ⟨h2, ?_⟩
  rw [← h3, List.length_take, Nat.min_eq_left (by omega)]
theorem DelI.at_ {w wr : World} {M : Heap} {g cap i j : Nat} {ps : List Tri} (h : DelI w M g cap ps i j wr) (hj : j < ps.length) : wr.cell? ⟨g, j * 3, none⟩ = some (.int .i64 ps[j].1.op) ∧ wr.cell? ⟨g, j * 3 + 1, none⟩ = some (.string (bs ps[j].1.s)) ∧ wr.cell? ⟨g, j * 3 + 2, none⟩ = some (.slice ps[j].2.1 ps[j].1.l.length ps[j].2.2) := by
  obtain ⟨rs, h1, h2, h3, h4, h5, h6⟩ := h
  have e : rs[j]'(by omega) = ps[j] := by
    have a : rs[j]? = ps[j]? := by
      have := congrArg (fun l : List Tri => l[0]?) h4
      simpa using this
    rw [List.getElem?_eq_getElem (by omega), List.getElem?_eq_getElem hj] at a
    exact Option.some.inj a
  obtain ⟨c0, c1, c2⟩ := flat_get rs j (by omega)
  rw [e] at c0 c1 c2
  exact ⟨h5.cell c0, h5.cell c1, h5.cell c2⟩
theorem DelI.spot {w wr : World} {M : Heap} {g cap i j : Nat} {ps : List Tri} (h : DelI w M g cap ps i j wr) {k : Nat} (hk : k < ps.length) : ∃ a b c, wr.cell? ⟨g, k * 3, none⟩ = some a ∧ wr.cell? ⟨g, k * 3 + 1, none⟩ = some b ∧ wr.cell? ⟨g, k * 3 + 2, none⟩ = some c ∧ ∀ m, wr.frozen? ⟨g, m, none⟩ = false := by
  obtain ⟨rs, h1, h2, h3, h4, h5, h6⟩ := h
  obtain ⟨c0, c1, c2⟩ := flat_get rs k (by omega)
  exact ⟨_, _, _, h5.cell c0, h5.cell c1, h5.cell c2, fun m => ownb_free h5.own m⟩
theorem DelI.keepw {w wr w5 : World} {M : Heap} {g cap i j : Nat} {ps : List Tri} (h : DelI w M g cap ps i j wr) (k : Kp [] wr w5) : DelI w M g cap ps i j w5 := by
  obtain ⟨rs, h1, h2, h3, h4, h5, h6⟩ := h
  exact ⟨rs, h1, h2, h3, h4, h5.same k (by simp), h6.trans (k.mono (by simp))⟩
theorem DelI.no {w wr : World} {M : Heap} {g cap i j : Nat} {ps : List Tri} (h : DelI w M g cap ps i j wr) (hj : j < ps.length) (hn : isN ps[j] = true) : DelI w M g cap ps i (j + 1) wr := by
  obtain ⟨rs, h1, h2, h3, h4, h5, h6⟩ := h
  refine ⟨rs, h1, by omega, by rw [h3, keep_snoc hj, hn]; simp, ?_, h5, h6⟩
  rw [← List.drop_drop (i := 1), h4, List.drop_drop]
theorem DelI.yes {w wr : World} {M : Heap} {g cap i j : Nat} {ps : List Tri} (h : DelI w M g cap ps i j wr) (hj : j < ps.length) (hn : isN ps[j] = false) :
    DelI w M g cap ps (i + 1) (j + 1) (((wr.setCell ⟨g, i * 3, none⟩ (.int .i64 ps[j].1.op)).setCell ⟨g, i * 3 + 1, none⟩ (.string (bs ps[j].1.s))).setCell ⟨g, i * 3 + 2, none⟩ (.slice ps[j].2.1 ps[j].1.l.length ps[j].2.2)) := by
  obtain ⟨rs, h1, h2, h3, h4, h5, h6⟩ := h
  refine ⟨rs.set i ps[j], by simpa using h1, by omega, ?_, ?_, ⟨?_, h5.out⟩, ((h6.setCell (.inl (by simp)) _).setCell (.inl (by simp)) _).setCell (.inl (by simp)) _⟩
  · have hil : i < (rs.set i ps[j]).length := by rw [List.length_set]; omega
    rw [List.take_succ_eq_append_getElem hil, List.take_set_of_le (Nat.le_refl _), h3, keep_snoc hj, hn]
    simp
  · rw [List.drop_set_of_lt (by omega), ← List.drop_drop (i := 1), h4, List.drop_drop]
  · have := ownb_set (ownb_set (ownb_set h5.own (i * 3) (.int .i64 ps[j].1.op)) (i * 3 + 1) (.string (bs ps[j].1.s))) (i * 3 + 2) (.slice ps[j].2.1 ps[j].1.l.length ps[j].2.2)
    rw [flat_set] at this
    exact this
theorem flat_take (ps : List Tri) (i : Nat) : (flat ps).take (i * 3) = flat (ps.take i) := by
  induction ps generalizing i with
  | nil => simp [flat]
  | cons a ps ih =>
    cases i with
    | zero => simp [flat]
    | succ i =>
      have e : flat (a :: ps) = .int .i64 a.1.op :: .string (bs a.1.s) :: .slice a.2.1 a.1.l.length a.2.2 :: flat ps := by simp [flat]
      have e2 : flat (a :: ps.take i) = .int .i64 a.1.op :: .string (bs a.1.s) :: .slice a.2.1 a.1.l.length a.2.2 :: flat (ps.take i) := by simp [flat]
      rw [List.take_succ_cons, e, e2, ← ih i, show (i + 1) * 3 = i * 3 + 1 + 1 + 1 by omega]
      simp
theorem DelI.done {w wr : World} {M : Heap} {g cap i : Nat} {ps : List Tri} (h : DelI w M g cap ps i ps.length wr) (vs : List Value) : i = (keep ps).length ∧ Sl (wr.setCells g (i * 3) vs) M 24 3 g i cap (flat (keep ps)) ∧ Kp [g] w (wr.setCells g (i * 3) vs) := by
  have hl := (h.len (Nat.le_refl _))
  obtain ⟨rs, h1, h2, h3, h4, h5, h6⟩ := h
  rw [List.take_length] at h3 hl
  refine ⟨hl.2, ⟨?_, h5.out⟩, kp_past vs _ _ _ h6⟩
  have hc := ownb_cut h5.own (Nat.le_of_lt h2)
  rw [flat_take, h3] at hc
  refine ownb_past vs _ _ hc ?_
  rw [flat_length, ← hl.2]; exact Nat.le_refl _
set_option maxRecDepth 100000 in
set_option maxHeartbeats 4000000 in
theorem Del_calls {ps : List Tri} {M : Heap} {g cap : Nat} (w : World) (hs : Sl w M 24 3 g ps.length cap (flat ps)) (hp : 0 < ps.length) (hl : ps.length ≤ 1000000) :
    Calls Tryz.prog 82 #[.slice (some ⟨g, 0, none⟩) ps.length cap, .func (.func 83) #[] #[]] w (DelEnd M g cap ps w) := by
  have HI := Hid.mk (IdxN_calls w hs hp hl)
  obtain ⟨_, _, _, hcap, _⟩ := hs.cells
  by_cases hall : ps.all (fun p => !isN p) = true
  · have HK : Hid (keep ps = ps) := Hid.mk (by
      unfold keep
      rw [List.filter_eq_self]
      intro x hx
      exact List.all_eq_true.1 hall x hx)
    rw [fstN_none hall] at HI
    have HS := Hid.mk (fun w' (k : Kp [] w w') => hs.same k (by simp))
    unfold DelEnd
    rw [HK.out]
    clear hs hall HK
    go_enter Tryz.func82, Tryz.ntmps82
    go_wp2_with fail
    (with_reducible refine HI.out.mono ?_)
    rintro en w2 ⟨rfl, hk2⟩
    have HZ := Hid.mk (And.intro (HS.out w2 hk2) (hk2.mono (S' := [g]) (by simp)))
    clear hk2
    go_wp2_with fail
    go_ret
    exact ⟨rfl, HZ.out⟩
  · obtain ⟨i0, hi0, h1, h2⟩ : ∃ i0, ∃ h : i0 < ps.length, (ps.take i0).all (fun p => !isN p) = true ∧ isN ps[i0] = true := by
      rw [Bool.not_eq_true, List.all_eq_false] at hall
      obtain ⟨x, hx, hb⟩ := hall
      cases hf : ps.findIdx? isN with
      | none =>
        rw [List.findIdx?_eq_none_iff] at hf
        rw [hf x hx] at hb
        exact absurd rfl hb
      | some i =>
        rw [List.findIdx?_eq_some_iff_getElem] at hf
        obtain ⟨h, ha, hb⟩ := hf
        refine ⟨i, h, ?_, ha⟩
        rw [List.all_eq_true]
        intro y hy
        obtain ⟨k, hk, rfl⟩ := List.getElem_of_mem hy
        rw [List.length_take] at hk
        have := hb k (by omega)
        simpa using this
    rw [fstN_some hi0 h1 h2] at HI
    have HS : Hid (∀ w', Kp [] w w' → DelI w M g cap ps i0 (i0 + 1) w') := Hid.mk (fun w' k => ⟨ps, rfl, by omega, by
      rw [keep_snoc hi0, h2]
      have : keep (ps.take i0) = ps.take i0 := by
        unfold keep
        rw [List.filter_eq_self]
        intro x hx
        exact List.all_eq_true.1 h1 x hx
      rw [this]; simp, rfl, hs.same k (by simp), k.mono (by simp)⟩)
    have hz : ((i0 : Int) == -1) = false := by rw [beq_eq_false_iff_ne]; omega
    clear hs hall h1 h2
    go_enter Tryz.func82, Tryz.ntmps82
    go_wp2_with fail
    (with_reducible refine HI.out.mono ?_)
    rintro en w2 ⟨rfl, hk2⟩
    have HD := Hid.mk (HS.out w2 hk2)
    clear hk2
    go_wp2_with fail
    go_loopg [5, 6] (ps.length - (i0 + 1)) (fun kk v5 v6 wr => ∃ i j : Nat, j ≤ ps.length ∧ kk = ps.length - j ∧ v5 = .int .i64 (i : Nat) ∧ v6 = .int .i64 (j : Nat) ∧ Hid (DelI w M g cap ps i j wr))
    case atStart => exact ⟨i0, i0 + 1, by omega, rfl, rfl, by go_num, HD⟩
    case round =>
      clear HD HS HI
      obtain ⟨i, j, hj, hkk, rfl, rfl, HD⟩ := hrel
      have hij := (HD.out.len hj).1
      by_cases hlt : j < ps.length
      · obtain ⟨q0, q1, q2⟩ := HD.out.at_ hlt
        have hbx := Box.new (memN wr) #[.int .i64 ps[j].1.op, .string (bs ps[j].1.s), .slice ps[j].2.1 ps[j].1.l.length ps[j].2.2] 24
        have HBX := Hid.mk hbx
        obtain ⟨⟨b0, b1, b2⟩, _, _, _⟩ := hbx.three
        have HC := Hid.mk (simpler2_calls (x := ps[j].1) (A := ps[j].2.1) (c := ps[j].2.2) (wr.alloc (.cells #[.int .i64 ps[j].1.op, .string (bs ps[j].1.s), .slice ps[j].2.1 ps[j].1.l.length ps[j].2.2] 24)))
        have hcf := fun w => simpler2_cf (.agg #[.int .i64 ps[j].1.op, .string (bs ps[j].1.s), .slice ps[j].2.1 ps[j].1.l.length ps[j].2.2]) w
        have HKA : Hid (Kp [] wr (wr.alloc (.cells #[.int .i64 ps[j].1.op, .string (bs ps[j].1.s), .slice ps[j].2.1 ps[j].1.l.length ps[j].2.2] 24))) := Hid.mk ((Kp.refl _ _).alloc _)
        clear hbx
        cases hc : (ps[j].1.op == 2) with
        | true =>
          have HN : Hid (isN ps[j] = true) := Hid.mk hc
          rw [hc] at HC
          clear hc
          go_wp2_with fail
          (with_reducible refine HC.out.mono ?_)
          rintro en w5 ⟨rfl, hk5⟩
          have HD5 := Hid.mk (HD.out.keepw (HKA.out.trans hk5))
          clear hk5 q0 q1 q2 b0 b1 b2
          go_wp2_with fail
          go_roundg (ps.length - (j + 1))
          case measure => omega
          case rel => exact ⟨i, j + 1, by omega, rfl, rfl, by go_num, Hid.mk (HD5.out.no hlt HN.out)⟩
        | false =>
          have HN : Hid (isN ps[j] = false) := Hid.mk hc
          rw [hc] at HC
          clear hc
          go_wp2_with fail
          (with_reducible refine HC.out.mono ?_)
          rintro en w5 ⟨rfl, hk5⟩
          have HD5 := Hid.mk (HD.out.keepw (HKA.out.trans hk5))
          obtain ⟨x0, x1, x2, s0, s1, s2, sf⟩ := HD5.out.spot (k := i) (by omega)
          obtain ⟨⟨t0, t1, t2⟩, _, _, _⟩ := (HBX.out.same hk5 (by simp)).three
          have g0 := sf (i * 3)
          have g1 := sf (i * 3 + 1)
          have g2 := sf (i * 3 + 2)
          have hin : (i : Int) < (ps.length : Int) := by omega
          clear hk5 q0 q1 q2 b0 b1 b2 sf
          go_wp2_with fail
          go_roundg (ps.length - (j + 1))
          case measure => omega
          case rel => exact ⟨i + 1, j + 1, by omega, rfl, by go_num, by go_num, Hid.mk (HD5.out.yes hlt HN.out)⟩
      · obtain rfl : j = ps.length := by omega
        have hnlt : ¬ ((ps.length : Int) < (ps.length : Int)) := by omega
        have hcl : ∀ ty, (Builtin.clear_ #[22] ty #[.slice (some ⟨g, i * 3, none⟩) (ps.length - i) (cap - i)]).run Tryz.prog wr = .ok (.tuple #[]) (wr.setCells g (i * 3) (zsE (ps.length - i))) := fun ty => run_clear_expr wr ty g (i * 3) (ps.length - i) (cap - i) (by omega) (fun k hk => by
          obtain ⟨rs, r1, r2, r3, r4, r5, r6⟩ := HD.out
          have hk2 : i * 3 + k < (flat rs).length := by rw [flat_length]; omega
          rw [r5.cell (List.getElem?_eq_getElem hk2)]; rfl) (fun k hk => by
          obtain ⟨rs, r1, r2, r3, r4, r5, r6⟩ := HD.out
          exact ownb_free r5.own _)
        have HE := Hid.mk (HD.out.done (zsE (ps.length - i)))
        have hil : (i : Int) ≤ (ps.length : Int) := by omega
        have hil2 : (i : Int) ≤ (cap : Int) := by omega
        have hil3 : (ps.length : Int) ≤ (cap : Int) := by omega
        have hil4 : (i : Int) < (cap : Int) := by omega
        have hil5 : (i : Int) < (ps.length : Int) := by omega
        go_wp2_with fail
        go_ret
        obtain ⟨e1, e2, e3⟩ := HE.out
        exact ⟨by rw [← e1]; rfl, by rw [← e1]; exact e2, e3⟩
end Go.Proofs.YtgdnhlckodhhgaaGreatDoor

/-
  What is simplified, by the program (simpler): while the nodes below are simplified.
-/
namespace Go.Proofs.YtgdnhlckodhhgaaGreatDoor
open Go.RowKit
set_option linter.unusedVariables false
set_option linter.unusedSimpArgs false
def zero3 : List Value := [.int .i64 0, .string ⟨#[]⟩, .slice none 0 0]
/-- How simpler ends. -/
def SEnd (M : Heap) (x : E) (w : World) (en : Ending) (w' : World) : Prop := ∃ A c M', en = .returned (.agg #[.int .i64 x.op, .string (bs x.s), .slice A x.l.length c]) ∧ ExV M' x A c ∧ Mem w' M' ∧ Ext w.heap.size M M' ∧ Kp [] w w'
/-- The row ahead of the append; the row behind it. -/
def P0 (S : List Nat) (w8 : World) (base : Nat) (v : Value) (j : Nat) (xs : List Value) (w' : World) : Prop := Kp S w8 w' ∧ w'.ownsRow base 24 3 v j xs
def PA (S : List Nat) (w8 : World) (base : Nat) (v : Value) (j : Nat) (xs : List Value) (g cap : Nat) (w' : World) : Prop := Kp S w8 w' ∧ w'.ownsRow base 24 3 (.slice (some ⟨g, 0, none⟩) (j + 1) cap) (j + 1) (xs ++ zero3) ∧ (v.ownBlock = some g ∨ w8.heap.size ≤ g)
/-- What was called for. -/
def PC (w8 : World) (M : Heap) (x : E) (A : Option Addr) (c : Nat) (M6 : Heap) (w' : World) : Prop := ExV M6 x A c ∧ Mem w' M6 ∧ Ext w8.heap.size M M6
section
variable {S : List Nat} {w8 w' w5 : World} {base j g cap c : Nat} {v : Value} {xs : List Value} {M M6 : Heap} {x : E} {A : Option Addr}
theorem P0.keepw (h : P0 S w8 base v j xs w') (k : Kp [] w' w5) : P0 S w8 base v j xs w5 := ⟨h.1.trans (k.mono (by simp)), ownb_keep h.2 k⟩
theorem PA.keepw (h : PA S w8 base v j xs g cap w') (k : Kp [] w' w5) : PA S w8 base v j xs g cap w5 := ⟨h.1.trans (k.mono (by simp)), ownb_keep h.2.1 k, h.2.2⟩
theorem PC.keepw (h : PC w8 M x A c M6 w') (k : Kp [] w' w5) : PC w8 M x A c M6 w5 := ⟨h.1, h.2.1.kp k (by simp), h.2.2⟩
theorem P0.grow (h : P0 S w8 base v j xs w') (hS : ∀ y, v.ownBlock = some y → y ∈ S) (ho : w5.ownsRow base 24 3 (.slice (some ⟨g, 0, none⟩) (j + 1) cap) (j + 1) (xs ++ zero3)) (hg : w'.grownBy w5 v.ownBlock) (hat : v.ownBlock = some g ∨ g = w'.heap.size) :
    PA S w8 base v j xs g cap w5 := by
  have hs := h.1.size
  exact ⟨h.1.grown hg (fun y hy => .inl (hS y hy)), ho, hat.imp id (fun e => by omega)⟩
theorem PC.grow (h : PC w8 M x A c M6 w') (hv : ∀ y, v.ownBlock = some y → M y = none ∧ y < w8.heap.size) (hg : w'.grownBy w5 v.ownBlock) : PC w8 M x A c M6 w5 := by
  refine ⟨h.1, fun b ob hb => ?_, h.2.2⟩
  have h1 := h.2.1 b ob hb
  have hlt := h.2.1.lt hb
  refine (hg.block b hlt (fun e => ?_)).trans h1
  obtain ⟨h2, h3⟩ := hv b e.symm
  rw [h.2.2.no h2 h3] at hb
  cases hb
theorem PC.of {en : Ending} (h : Kp S w8 w') (he : SEnd M x w' en w5) : ∃ A c M6, en = .returned (.agg #[.int .i64 x.op, .string (bs x.s), .slice A x.l.length c]) ∧ PC w8 M x A c M6 w5 ∧ Kp [] w' w5 ∧ Ext w'.heap.size M M6 := by
  obtain ⟨A, c, M6, h1, h2, h3, h4, h5⟩ := he
  exact ⟨A, c, M6, h1, ⟨h2, h3, h4.low h.size⟩, h5, h4⟩
theorem PC.none1 (h : PC w8 M x A c M6 w') (hv : ∀ y, v.ownBlock = some y → M y = none ∧ y < w8.heap.size) (hat : v.ownBlock = some g ∨ g = w'.heap.size) : M6 g = none := by
  rcases hat with hat | hat
  · obtain ⟨h2, h3⟩ := hv g hat
    exact h.2.2.no h2 h3
  · exact h.2.1.ge (by omega)
theorem PA.none3 (h : PA S w8 base v j xs g cap w') (hM : Mem w8 M) (hv : ∀ y, v.ownBlock = some y → M y = none ∧ y < w8.heap.size) (hx : Ext w'.heap.size M M6) : M6 g = none := by
  have hlt : g < w'.heap.size := ownb_lt h.2.1 rfl
  refine hx.no ?_ hlt
  rcases h.2.2 with hat | hat
  · exact (hv g hat).1
  · exact hM.ge hat
theorem PA.cells (h : PA S w8 base v j xs g cap w') (hl : xs.length = j * 3) : (w'.cell? ⟨g, j * 3, none⟩ = some (.int .i64 0) ∧ w'.cell? ⟨g, j * 3 + 1, none⟩ = some (.string ⟨#[]⟩) ∧ w'.cell? ⟨g, j * 3 + 2, none⟩ = some (.slice none 0 0)) ∧ w'.frozen? ⟨g, j * 3, none⟩ = false ∧ w'.frozen? ⟨g, j * 3 + 1, none⟩ = false ∧ w'.frozen? ⟨g, j * 3 + 2, none⟩ = false := by
  have e : ∀ k, (xs ++ zero3)[j * 3 + k]? = zero3[k]? := fun k => by rw [List.getElem?_append_right (by omega)]; congr 1; omega
  exact ⟨⟨ownb_cell h.2.1 (e 0), ownb_cell h.2.1 (e 1), ownb_cell h.2.1 (e 2)⟩, ownb_free h.2.1 _, ownb_free h.2.1 _, ownb_free h.2.1 _⟩
end
/-- While the nodes below are simplified. -/
def SI (w : World) (M : Heap) (e : E) (A : Option Addr) (c j : Nat) (wr : World) : Prop :=
  ∃ (M' : Heap) (ps : List Tri) (v : Value), ps.map (·.1) = reds (e.l.take j) ∧ ps.length = j ∧ wr.ownsRow (w.heap.size + 3) 24 3 v j (flat ps) ∧ (∀ x, v.ownBlock = some x → M' x = none) ∧ AllV M' ps ∧ Mem wr M' ∧ Ext w.heap.size M M' ∧
    Box wr M' w.heap.size #[.int .i64 e.op, .string (bs e.s), .slice A e.l.length c] 24 ∧ Box wr M' (w.heap.size + 1) #[.int .i64 0, .string ⟨#[]⟩, .slice none 0 0] 24 ∧ Box wr M' (w.heap.size + 2) #[.int .i64 e.op, .string (bs e.s), v] 24 ∧ Kp [] w wr
theorem reds_take {l : List E} {j : Nat} (h : j < l.length) : reds (l.take (j + 1)) = reds (l.take j) ++ [l[j].red] := by
  rw [reds_map, reds_map, List.take_succ_eq_append_getElem h, List.map_append]; rfl
theorem flat_put (ps : List Tri) (p : Tri) : (((flat ps ++ zero3).set (ps.length * 3) (.int .i64 p.1.op)).set (ps.length * 3 + 1) (.string (bs p.1.s))).set (ps.length * 3 + 2) (.slice p.2.1 p.1.l.length p.2.2) = flat (ps ++ [p]) := by
  have hz : zero3 = flat [(.mk 0 [] [], none, 0)] := rfl
  rw [hz, ← flat_append, flat_set]
  congr 1
  simp
/-- One node more. -/
theorem SI.step {w wr w9 : World} {M M' M6 : Heap} {e : E} {A A6 : Option Addr} {c c6 j g cap : Nat} {ps : List Tri} {v : Value} {o8 : Obj} (hj : j < e.l.length)
    (h1 : ps.map (·.1) = reds (e.l.take j)) (h2 : ps.length = j) (hown : wr.ownsRow (w.heap.size + 3) 24 3 v j (flat ps)) (hv : ∀ x, v.ownBlock = some x → M' x = none) (hav : AllV M' ps) (hM : Mem wr M') (hE : Ext w.heap.size M M')
    (hb0 : Box wr M' w.heap.size #[.int .i64 e.op, .string (bs e.s), .slice A e.l.length c] 24) (hb1 : Box wr M' (w.heap.size + 1) #[.int .i64 0, .string ⟨#[]⟩, .slice none 0 0] 24) (hb2 : Box wr M' (w.heap.size + 2) #[.int .i64 e.op, .string (bs e.s), v] 24) (hK : Kp [] w wr)
    (hA : PA v.ownBlock.toList (wr.alloc o8) (w.heap.size + 3) v j (flat ps) g cap w9) (hC : PC (wr.alloc o8) M' e.l[j].red A6 c6 M6 w9) (hg : M6 g = none) :
    SI w M e A c (j + 1) (((((w9.setCell ⟨g, j * 3, none⟩ (.int .i64 e.l[j].red.op)).setCell ⟨g, j * 3 + 1, none⟩ (.string (bs e.l[j].red.s))).setCell ⟨g, j * 3 + 2, none⟩ (.slice A6 e.l[j].red.l.length c6))).setCell ⟨w.heap.size + 2, 2, none⟩ (.slice (some ⟨g, 0, none⟩) (j + 1) cap)) := by
  subst h2
  have hsz := hK.size
  have hl2 := hb2.lt
  have hge : w.heap.size + 3 ≤ g := by
    rcases hA.2.2 with h | h
    · exact ownb_base hown h
    · simp at h; omega
  have hvb : ∀ x, v.ownBlock = some x → w.heap.size + 3 ≤ x := fun x hx => ownb_base hown hx
  have hk8 : Kp v.ownBlock.toList wr w9 := ((Kp.refl _ wr).alloc o8).trans hA.1
  have hS : ∀ b, b < w.heap.size + 3 → b ∉ v.ownBlock.toList := fun b hb hx => by
    have := hvb b (by simpa using hx); omega
  have hkS : Kp [g, w.heap.size + 2] w9 (((((w9.setCell ⟨g, ps.length * 3, none⟩ (.int .i64 e.l[ps.length].red.op)).setCell ⟨g, ps.length * 3 + 1, none⟩ (.string (bs e.l[ps.length].red.s))).setCell ⟨g, ps.length * 3 + 2, none⟩ (.slice A6 e.l[ps.length].red.l.length c6))).setCell ⟨w.heap.size + 2, 2, none⟩ (.slice (some ⟨g, 0, none⟩) (ps.length + 1) cap)) := ((((Kp.refl _ _).setCell (.inl (by simp)) _).setCell (.inl (by simp)) _).setCell (.inl (by simp)) _).setCell (.inl (by simp)) _
  have hno2 : M6 (w.heap.size + 2) = none := hC.2.2.no hb2.out (by simp; omega)
  have x0 : Box w9 M6 w.heap.size #[.int .i64 e.op, .string (bs e.s), .slice A e.l.length c] 24 := ⟨(hb0.same hk8 (hS _ (by omega))).blk, hC.2.2.no hb0.out (by simp; omega)⟩
  have x1 : Box w9 M6 (w.heap.size + 1) #[.int .i64 0, .string ⟨#[]⟩, .slice none 0 0] 24 := ⟨(hb1.same hk8 (hS _ (by omega))).blk, hC.2.2.no hb1.out (by simp; omega)⟩
  have x2 : Box w9 M6 (w.heap.size + 2) #[.int .i64 e.op, .string (bs e.s), v] 24 := ⟨(hb2.same hk8 (hS _ (by omega))).blk, hno2⟩
  have hEE : Ext w.heap.size M M6 := hE.trans (hC.2.2.low (by simp; omega)) (Nat.le_refl _)
  refine ⟨M6, ps ++ [(e.l[ps.length].red, A6, c6)], .slice (some ⟨g, 0, none⟩) (ps.length + 1) cap, ?_, by simp, ?_, ?_, ?_, hC.2.1.kp hkS (by simp [hg, hno2]), hEE, x0.same hkS (by simp; omega), x1.same hkS (by simp; omega), ?_, ?_⟩
  · rw [List.map_append, h1, reds_take hj]; rfl
  · have := ownb_set (ownb_set (ownb_set hA.2.1 (ps.length * 3) (.int .i64 e.l[ps.length].red.op)) (ps.length * 3 + 1) (.string (bs e.l[ps.length].red.s))) (ps.length * 3 + 2) (.slice A6 e.l[ps.length].red.l.length c6)
    rw [flat_put ps (e.l[ps.length].red, A6, c6)] at this
    exact ownb_of this (fun y hy => set_far (by simp only [Value.ownBlock, Option.some.injEq] at hy; simp; omega) _)
  · intro y hy
    simp only [Value.ownBlock, Option.some.injEq] at hy
    rw [← hy]; exact hg
  · exact (hav.ext hC.2.2).snoc hC.1
  · have y2 := ((((x2.far (p := ⟨g, ps.length * 3, none⟩) (by simp; omega) (.int .i64 e.l[ps.length].red.op)).far (p := ⟨g, ps.length * 3 + 1, none⟩) (by simp; omega) (.string (bs e.l[ps.length].red.s))).far (p := ⟨g, ps.length * 3 + 2, none⟩) (by simp; omega) (.slice A6 e.l[ps.length].red.l.length c6))).set 2 (.slice (some ⟨g, 0, none⟩) (ps.length + 1) cap)
    exact y2
  · have hk9 : Kp [] w w9 := by
      refine hK.inner hk8 (fun x hx => .inr (by have := hvb x (by simpa using hx); omega))
    exact hk9.inner hkS (fun x hx => .inr (by simp at hx; omega))
end Go.Proofs.YtgdnhlckodhhgaaGreatDoor

/-
  What is simplified, by the program: the row is whole; the functions within simpler.
-/
namespace Go.Proofs.YtgdnhlckodhhgaaGreatDoor
open Go.RowKit
set_option linter.unusedVariables false
set_option linter.unusedSimpArgs false
theorem reds_len (l : List E) : (reds l).length = l.length := by rw [reds_map]; simp
theorem ExV.sign {M : Heap} {e : E} {A : Option Addr} {c : Nat} (h : ExV M e A c) (op : Int) (s : Bs) : ExV M (.mk op s e.l) A c := by
  obtain ⟨op0, s0, l⟩ := e
  unfold ExV at h ⊢
  generalize hv : (Value.agg #[.int .i64 (E.mk op0 s0 l).op, .string (bs (E.mk op0 s0 l).s), .slice A (E.mk op0 s0 l).l.length c]) = v at h
  cases h with
  | mk _ _ _ A1 c1 sv hc hrow hk =>
    simp only [E.op, E.s, E.l, Value.agg.injEq, Array.mk.injEq, List.cons.injEq, Value.slice.injEq] at hv
    obtain ⟨_, _, ⟨rfl, _, rfl⟩, _⟩ := hv
    exact ExM.mk op s l A c sv hc hrow hk
/-- All below is simplified: the node as it lies. -/
theorem SI.fin {w wr : World} {M : Heap} {e : E} {A : Option Addr} {c : Nat} (h : SI w M e A c e.l.length wr) :
    ∃ M' Av cv, ExV M' (.mk e.op e.s (reds e.l)) Av cv ∧ Mem wr M' ∧ Ext w.heap.size M M' ∧
    Box wr M' w.heap.size #[.int .i64 e.op, .string (bs e.s), .slice A e.l.length c] 24 ∧ Box wr M' (w.heap.size + 1) #[.int .i64 0, .string ⟨#[]⟩, .slice none 0 0] 24 ∧ Box wr M' (w.heap.size + 2) #[.int .i64 e.op, .string (bs e.s), .slice Av (reds e.l).length cv] 24 ∧ Kp [] w wr := by
  obtain ⟨M', ps, v, h1, h2, hown, hv, hav, hM, hE, hb0, hb1, hb2, hK⟩ := h
  rw [List.take_length] at h1
  have hlen := reds_len e.l
  by_cases h0 : e.l.length = 0
  · obtain ⟨Av, cv, rfl, _, _⟩ := ownb_shape hown
    have hl : e.l = [] := List.length_eq_zero_iff.1 h0
    refine ⟨M', Av, cv, ?_, hM, hE, hb0, hb1, ?_, hK⟩
    · have : reds e.l = [] := by rw [hl]; simp [reds]
      rw [this]; exact ExV.leaf _ _ _ _ _
    · rw [hlen]; exact hb2
  · obtain ⟨g, cap, rfl, hcap⟩ := ownb_some hown (by omega)
    have hge : w.heap.size + 3 ≤ g := ownb_base hown rfl
    obtain ⟨M2, x1, x2, x3, x4⟩ := (Sl.mk (ownb_mono hown (Nat.zero_le _)) (hv g rfl)).node h2.symm hM hav e.op e.s w.heap.size (by omega)
    rw [h1] at x1
    refine ⟨M2, _, _, x1, x2, hE.trans x3 (Nat.le_refl _), ⟨hb0.blk, x4 _ (by omega) hb0.out⟩, ⟨hb1.blk, x4 _ (by omega) hb1.out⟩, ⟨?_, x4 _ (by omega) hb2.out⟩, hK⟩
    rw [hlen]; exact hb2.blk
set_option maxRecDepth 100000 in
set_option maxHeartbeats 2000000 in
/-- The sign of the first below. -/
theorem simpler1_calls {b g o n c : Nat} {op : Int} (w : World) (h2 : w.cell? ⟨b, 2, none⟩ = some (.slice (some ⟨g, o, none⟩) n c)) (hn : 0 < n) (h0 : w.cell? ⟨g, o, none⟩ = some (.int .i64 op)) :
    Calls Tryz.prog 81 #[.pointer (some ⟨b, 0, none⟩)] w fun en w' => en = .returned (.int .i64 op) ∧ w = w' := by
  have hn' : (0 : Int) < (n : Int) := by omega
  go_enter Tryz.func81, Tryz.ntmps81
  go_wp2_with fail
  go_ret
  exact ⟨rfl, rfl⟩
theorem simpler1_cf (v : Value) (w : World) : (callFunc 81 #[v]).run Tryz.prog w = .ok (.enter 81 #[v]) w := by kernel_rfl
theorem simpler3_cf (v u : Value) (w : World) : (callFunc 85 #[v, u]).run Tryz.prog w = .ok (.enter 85 #[v, u]) w := by kernel_rfl
set_option maxRecDepth 100000 in
set_option maxHeartbeats 2000000 in
/-- Whether one is the same as the one held. -/
theorem simpler3_calls {x y : E} {A B : Option Addr} {b c d : Nat} {M : Heap} (hx : ExV M x A c) (hy : ExV M y B d) (w : World) (hM : Mem w M) (hb : Box w M b #[.int .i64 x.op, .string (bs x.s), .slice A x.l.length c] 24) (hn : x.size ≤ 1099511627776) :
    Calls Tryz.prog 85 #[.agg #[.int .i64 y.op, .string (bs y.s), .slice B y.l.length d], .pointer (some ⟨b, 0, none⟩)] w fun en w' => en = .returned (.bool (same x y)) ∧ Kp [] w w' := by
  have HS := Hid.mk (fun (w' : World) (k : Mem w' M) => Same_calls x.size x y A B c d w' M hx hy k (Nat.le_refl _) hn)
  have hk : Kp [] w (w.alloc (.cells #[.int .i64 y.op, .string (bs y.s), .slice B y.l.length d] 24)) := (Kp.refl _ _).alloc _
  have HK := Hid.mk hk
  have hM1 := Hid.mk (hM.alloc (.cells #[.int .i64 y.op, .string (bs y.s), .slice B y.l.length d] 24))
  have hb1 := hb.alloc (.cells #[.int .i64 y.op, .string (bs y.s), .slice B y.l.length d] 24)
  obtain ⟨⟨q0, q1, q2⟩, _, _, _⟩ := hb1.three
  obtain ⟨⟨p0, p1, p2⟩, _, _, _⟩ := (Box.new hM #[.int .i64 y.op, .string (bs y.s), .slice B y.l.length d] 24).three
  clear hx hy hM hb hn hk hb1
  go_enter Tryz.func85, Tryz.ntmps85
  go_wp2_with fail
  refine (HS.out _ hM1.out).mono ?_
  rintro en w1 ⟨rfl, hk1⟩
  have HK1 := Hid.mk hk1
  clear hk1
  go_wp2_with fail
  go_ret
  exact ⟨rfl, HK.out.trans HK1.out⟩
/-! ### One of several (op 5) -/
theorem orL_snoc (x : E) (l : List E) : ∀ acc, orL acc (l ++ [x]) = if x.op = 3 ∨ (orL acc l).any (fun y => same x y) = true then orL acc l else orL acc l ++ [x] := by
  induction l with
  | nil => intro acc; simp [orL]
  | cons a l ih => intro acc; rw [List.cons_append, orL, ih, orL]
/-- While the ones to be kept are gathered. -/
def OI (w0 : World) (M : Heap) (l : List E) (j : Nat) (v : Value) (w : World) : Prop := ∃ ps : List Tri, ps.map (·.1) = orL [] (l.take j) ∧ w.ownsRow w0.heap.size 24 3 v ps.length (flat ps) ∧ AllV M ps ∧ Kp [] w0 w ∧ Mem w M
theorem OI.skip {w0 w w1 : World} {M : Heap} {l : List E} {j : Nat} {v : Value} (h : OI w0 M l j v w) (hj : j < l.length) (k : Kp [] w w1) (hb : l[j].op = 3 ∨ (orL [] (l.take j)).any (fun y => same l[j] y) = true) : OI w0 M l (j + 1) v w1 := by
  obtain ⟨ps, h1, h2, h3, h4, h5⟩ := h
  refine ⟨ps, ?_, ownb_keep h2 k, h3, h4.trans k, h5.kp k (by simp)⟩
  rw [List.take_succ_eq_append_getElem hj, orL_snoc, if_pos hb, h1]
theorem OI.push {w0 w w1 w5 : World} {M : Heap} {l : List E} {j g cap : Nat} {v : Value} {ps : List Tri} {A : Option Addr} {c : Nat} (h1 : ps.map (·.1) = orL [] (l.take j)) (h2 : w.ownsRow w0.heap.size 24 3 v ps.length (flat ps)) (h3 : AllV M ps) (h4 : Kp [] w0 w) (h5 : Mem w M) (hMb : ∀ b, w0.heap.size ≤ b → M b = none) (hj : j < l.length)
    (hx : ExV M l[j] A c) (hb : ¬ (l[j].op = 3 ∨ (orL [] (l.take j)).any (fun y => same l[j] y) = true)) (k : Kp [] w w1)
    (ho : w5.ownsRow w0.heap.size 24 3 (.slice (some ⟨g, 0, none⟩) (ps.length + 1) cap) (ps.length + 1) (flat ps ++ [.int .i64 l[j].op, .string (bs l[j].s), .slice A l[j].l.length c])) (hg : w1.grownBy w5 v.ownBlock) : OI w0 M l (j + 1) (.slice (some ⟨g, 0, none⟩) (ps.length + 1) cap) w5 := by
  have hvb : ∀ x, v.ownBlock = some x → w0.heap.size ≤ x := fun x hx => ownb_base h2 hx
  refine ⟨ps ++ [(l[j], A, c)], ?_, ?_, h3.snoc hx, ?_, ?_⟩
  · rw [List.map_append, h1, List.take_succ_eq_append_getElem hj, orL_snoc, if_neg hb]; rfl
  · rw [flat_append, List.length_append]
    exact ho
  · exact (h4.trans k).grown hg (fun y hy => .inr (hvb y hy))
  · intro b ob hM
    have hlt := (h5.kp k (by simp)).lt hM
    refine (hg.block b hlt (fun e => ?_)).trans ((h5.kp k (by simp)) b ob hM)
    rw [hMb b (hvb b e.symm)] at hM
    cases hM
theorem SEnd.of {w wr : World} {M M' : Heap} {x : E} {A : Option Addr} {b c : Nat} {X Y Z : Value} (hx : ExV M' x A c) (hM : Mem wr M') (hE : Ext w.heap.size M M') (hb : M' b = none) (hge : w.heap.size ≤ b) (hK : Kp [] w wr) :
    SEnd M x w (.returned (.agg #[.int .i64 x.op, .string (bs x.s), .slice A x.l.length c])) (((wr.setCell ⟨b, 0, none⟩ X).setCell ⟨b, 1, none⟩ Y).setCell ⟨b, 2, none⟩ Z) := by
  have hk3 : Kp [b] wr (((wr.setCell ⟨b, 0, none⟩ X).setCell ⟨b, 1, none⟩ Y).setCell ⟨b, 2, none⟩ Z) := (Kp.refl [b] wr).set3 (.inl (by simp))
  exact ⟨A, c, M', rfl, hx, hM.kp hk3 (by simp [hb]), hE, hK.inner hk3 (fun y hy => .inr (by simp at hy; omega))⟩
end Go.Proofs.YtgdnhlckodhhgaaGreatDoor

/-
  One of several, by the program: the row that is gathered, as a node; what is asked of it.
-/
namespace Go.Proofs.YtgdnhlckodhhgaaGreatDoor
open Go.RowKit
set_option linter.unusedVariables false
set_option linter.unusedSimpArgs false
theorem AllV.keep {M : Heap} {ps : List Tri} (h : AllV M ps) : AllV M (keep ps) := by
  intro j hj
  obtain ⟨i, hi, he⟩ := List.getElem_of_mem (List.mem_filter.1 (List.getElem_mem hj)).1
  have := h i hi
  rw [he] at this
  exact this
theorem three_cells {w : World} {b : Nat} {t : TypeId} {x y z : Value} (h : w.heap[b]? = some (.cells #[x, y, z] t (0, 0))) : ∀ j u, [x, y, z][j]? = some u → w.cell? ((⟨b, 0, none⟩ : Addr).add j) = some u := World.news_of_block (cs := #[x, y, z]) h
theorem three_one (a : Int) (b : ByteArray) (A : Option Addr) (n c : Nat) : ∀ u ∈ [Value.int .i64 a, .string b, .slice A n c], u.oneCell' = true := by
  intro u hu
  simp at hu
  rcases hu with rfl | rfl | rfl <;> rfl
theorem OI.node {w0 w : World} {M : Heap} {l : List E} {j : Nat} {v : Value} (h : OI w0 M l j v w) (hMb : ∀ b, w0.heap.size ≤ b → M b = none) (op : Int) (s : Bs) :
    ∃ M2 A c, v = .slice A (orL [] (l.take j)).length c ∧ ExV M2 (.mk op s (orL [] (l.take j))) A c ∧ Mem w M2 ∧ Ext w0.heap.size M M2 := by
  obtain ⟨ps, h1, h2, h3, h4, h5⟩ := h
  have hl : (orL [] (l.take j)).length = ps.length := by rw [← h1]; simp
  by_cases h0 : ps.length = 0
  · obtain ⟨A, c, rfl, _, _⟩ := ownb_shape h2
    have he : orL [] (l.take j) = [] := List.length_eq_zero_iff.1 (by omega)
    refine ⟨M, A, c, by rw [hl], ?_, h5, Ext.refl _ _⟩
    rw [he]; exact ExV.leaf _ _ _ _ _
  · obtain ⟨g, cap, rfl, hcap⟩ := ownb_some h2 (by omega)
    have hge : w0.heap.size ≤ g := ownb_base h2 rfl
    obtain ⟨M2, x1, x2, x3, x4⟩ := (Sl.mk (ownb_mono h2 (Nat.zero_le _)) (hMb g hge)).node rfl h5 h3 op s w0.heap.size hge
    rw [h1] at x1
    exact ⟨M2, _, _, by rw [hl], x1, x2, x3⟩
theorem OI.ask {w0 w : World} {M : Heap} {l : List E} {j : Nat} {v : Value} {A : Option Addr} {c : Nat} (h : OI w0 M l j v w) (hMb : ∀ b, w0.heap.size ≤ b → M b = none) (hj : j < l.length) (hx : ExV M l[j] A c) (hl : l.length ≤ 1000) (hs : l[j].size ≤ 1000) :
    Calls Tryz.prog 76 #[v, .func (.func 85) #[] #[.pointer (some ⟨w.heap.size, 0, none⟩)]] (w.alloc (.cells #[.int .i64 l[j].op, .string (bs l[j].s), .slice A l[j].l.length c] 24))
      fun en w' => en = .returned (.bool ((orL [] (l.take j)).any (fun y => same l[j] y))) ∧ Kp [] (w.alloc (.cells #[.int .i64 l[j].op, .string (bs l[j].s), .slice A l[j].l.length c] 24)) w' := by
  obtain ⟨M2, B, d, rfl, x1, x2, x3⟩ := h.node hMb 0 []
  have hb := Box.new x2 #[.int .i64 l[j].op, .string (bs l[j].s), .slice A l[j].l.length c] 24
  have hlen : (orL [] (l.take j)).length ≤ 1000 := by
    obtain ⟨m, hm, hsub⟩ := orL_sub (l.take j) []
    rw [hm]
    have := hsub.length_le
    simp at this ⊢
    omega
  exact ContainsFuncEC_calls (e := .mk 0 [] (orL [] (l.take j))) (cap := #[.pointer (some ⟨w.heap.size, 0, none⟩)]) x1 (fun u w' => simpler3_cf _ _ w')
    (fun y B d w' hy hyx hM' hk => simpler3_calls (hx.ext x3) hyx w' hM' (hb.same hk (by simp)) (by omega)) (x2.alloc _) (by rw [mk_l]; omega)
end Go.Proofs.YtgdnhlckodhhgaaGreatDoor

/-
  Two stores into different blocks, in either order.
-/
namespace Go.Proofs.YtgdnhlckodhhgaaGreatDoor
open Go.RowKit
set_option linter.unusedVariables false
set_option linter.unusedSimpArgs false
theorem setCell_swap {w : World} {p q : Addr} (h : p.block ≠ q.block) (v u : Value) : (w.setCell p v).setCell q u = (w.setCell q u).setCell p v := by
  simp only [World.setCell]
  congr 1
  apply Array.ext_getElem?
  intro i
  simp only [Array.getElem?_modify]
  by_cases h1 : p.block = i
  · by_cases h2 : q.block = i
    · exact absurd (h1.trans h2.symm) h
    · simp [h1, h2]
  · by_cases h2 : q.block = i
    · simp [h1, h2]
    · simp [h1, h2]
theorem setCell_swap3 {w : World} {p q r t : Addr} (h1 : p.block ≠ t.block) (h2 : q.block ≠ t.block) (h3 : r.block ≠ t.block) (a b c u : Value) : (((w.setCell p a).setCell q b).setCell r c).setCell t u = (((w.setCell t u).setCell p a).setCell q b).setCell r c := by
  rw [setCell_swap h3, setCell_swap h2, setCell_swap h1]
end Go.Proofs.YtgdnhlckodhhgaaGreatDoor
