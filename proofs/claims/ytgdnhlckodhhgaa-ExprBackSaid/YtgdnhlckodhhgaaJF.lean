/-
  The reference's reader: bytes, signs and their operations.
-/
import Derived.Test.YtgdnhlckodhhgaaJB
import Derived.Test.YtgdnhlckodhhgaaJQ
import Derived.BigRegion
namespace Go.Proofs.Ytgdnhlckodhhgaa
open Go.RowKit
set_option linter.unusedVariables false
set_option linter.unusedSimpArgs false
set_option maxHeartbeats 400000 in
theorem risWord_calls (c : Int) (w : World) :
    Calls Try.prog 46 #[.int .u8 c] w fun e w' => e = .returned (.bool (isNameI c)) ∧ w = w' := by
  go_enter Try.func46, Try.ntmps46
  go_wp2
  all_goals
    go_ret
    exact ⟨ret_bool (by rw [Bool.eq_iff_iff]; simp [isNameI]; omega), rfl⟩
set_option maxHeartbeats 400000 in
theorem risSym_calls (c : Int) (w : World) :
    Calls Try.prog 48 #[.int .u8 c] w fun e w' => e = .returned (.bool (isSignI c)) ∧ w = w' := by
  go_enter Try.func48, Try.ntmps48
  go_wp2
  all_goals
    go_ret
    exact ⟨ret_bool (by rw [Bool.eq_iff_iff]; simp [isSignI]; omega), rfl⟩
/-- The sign of a level, as a number; 0 is that of chains. -/
def sgnI : Nat → Int | 1 => 45 | 2 => 124 | 3 => 38 | 4 => 37 | 5 => 47 | _ => 0
set_option maxHeartbeats 400000 in
theorem tighter_calls (n : Nat) (hn : 1 ≤ n ∧ n ≤ 5) (w : World) :
    Calls Try.prog 73 #[.int .i64 (sgnI n)] w fun e w' => e = .returned (.int .i64 (sgnI (n + 1))) ∧ w = w' := by
  obtain ⟨h1, h5⟩ := hn
  match n, h1, h5 with
  | 1, _, _ | 2, _, _ | 3, _, _ | 4, _, _ | 5, _, _ =>
    simp only [sgnI]
    go_enter Try.func73, Try.ntmps73
    go_wp2
    go_ret
    exact ⟨rfl, rfl⟩
set_option maxHeartbeats 400000 in
theorem opOf_calls (n : Nat) (hn : 1 ≤ n ∧ n ≤ 5) (w : World) :
    Calls Try.prog 74 #[.int .i64 (sgnI n)] w fun e w' => e = .returned (.int .i64 (opn n)) ∧ w = w' := by
  obtain ⟨h1, h5⟩ := hn
  match n, h1, h5 with
  | 1, _, _ | 2, _, _ | 3, _, _ | 4, _, _ | 5, _, _ =>
    simp only [sgnI, opn]
    go_enter Try.func74, Try.ntmps74
    go_wp2
    go_ret
    exact ⟨rfl, rfl⟩
set_option maxHeartbeats 400000 in
theorem opOf2_calls (c o : Int) (h : (c = 42 ∧ o = 8) ∨ (c = 43 ∧ o = 9) ∨ (c = 63 ∧ o = 10) ∨ (c = 126 ∧ o = 11) ∨ (c = 36 ∧ o = 12)) (w : World) :
    Calls Try.prog 74 #[.int .i64 c] w fun e w' => e = .returned (.int .i64 o) ∧ w = w' := by
  rcases h with ⟨rfl, rfl⟩ | ⟨rfl, rfl⟩ | ⟨rfl, rfl⟩ | ⟨rfl, rfl⟩ | ⟨rfl, rfl⟩
  all_goals
    go_enter Try.func74, Try.ntmps74
    go_wp2
    go_ret
    exact ⟨rfl, rfl⟩
end Go.Proofs.Ytgdnhlckodhhgaa

/-
  The reference's reader: its state; a symbol between < and >.
-/
namespace Go.Proofs.Ytgdnhlckodhhgaa
open Go.RowKit
set_option linter.unusedVariables false
set_option linter.unusedSimpArgs false
/-- The reference's reader in memory. -/
def PB (w : World) (M : Heap) (g : Nat) (l : Bs) (p nx kd : Int) (sy : ByteArray) (bd : Bool) : Prop :=
  Box w M g #[.string (bs l), .int .i64 p, .int .i64 nx, .int .i64 kd, .string sy, .bool bd] 49
theorem PB.cells {w : World} {M : Heap} {g : Nat} {l : Bs} {p nx kd : Int} {sy : ByteArray} {bd : Bool} (h : PB w M g l p nx kd sy bd) :
    (w.cell? ⟨g, 0, none⟩ = some (.string (bs l)) ∧ w.cell? ⟨g, 1, none⟩ = some (.int .i64 p) ∧ w.cell? ⟨g, 2, none⟩ = some (.int .i64 nx) ∧ w.cell? ⟨g, 3, none⟩ = some (.int .i64 kd) ∧ w.cell? ⟨g, 4, none⟩ = some (.string sy) ∧ w.cell? ⟨g, 5, none⟩ = some (.bool bd)) ∧
    w.frozen? ⟨g, 1, none⟩ = false ∧ w.frozen? ⟨g, 2, none⟩ = false ∧ w.frozen? ⟨g, 3, none⟩ = false ∧ w.frozen? ⟨g, 4, none⟩ = false ∧ w.frozen? ⟨g, 5, none⟩ = false :=
  ⟨⟨Box.cell h 0, Box.cell h 1, Box.cell h 2, Box.cell h 3, Box.cell h 4, Box.cell h 5⟩, Box.free h 1, Box.free h 2, Box.free h 3, Box.free h 4, Box.free h 5⟩
theorem get_suf {l q : Bs} {c : UInt8} (h : (c :: q) <:+ l) (j : Nat) (hj : j < q.length) : ∃ hlt : at_ l (c :: q) + 1 + j < (bs l).size, (bs l)[at_ l (c :: q) + 1 + j] = q[j] := by
  obtain ⟨z, rfl⟩ := h
  have e : at_ (z ++ c :: q) (c :: q) = z.length := by simp [at_]
  rw [e]
  refine ⟨by rw [bs_size]; simp; omega, ?_⟩
  simp only [bs, ByteArray.getElem_eq_getElem_data, List.getElem_toArray]
  rw [List.getElem_append_right (by omega)]
  simp only [show z.length + 1 + j - z.length = j + 1 by omega, List.getElem_cons_succ]
theorem ext_suf {l q : Bs} {c : UInt8} (h : (c :: q) <:+ l) (n : Nat) : (bs l).extract (at_ l (c :: q) + 1) (at_ l (c :: q) + 1 + n) = bs (q.take n) := by
  obtain ⟨z, rfl⟩ := h
  have e : at_ (z ++ c :: q) (c :: q) = z.length := by simp [at_]
  rw [e, bs_extract]
  congr 1
  rw [show z ++ c :: q = (z ++ [c]) ++ q by simp, List.take_append, List.drop_append]
  simp
/-- How long ends. -/
def LongEnd (w w' : World) (M : Heap) (g : Nat) (l q : Bs) (p : Nat) (nx : Int) (sy : ByteArray) (bd : Bool) : Prop :=
  Kp [g] w w' ∧ if longOk q = true then PB w' M g l p (p + (run q + 2) : Nat) 1 (bs (q.take (run q))) bd else PB w' M g l p nx 4 sy bd
theorem LongEnd.no {w w' : World} {M : Heap} {g : Nat} {l q : Bs} {p : Nat} {nx : Int} {sy : ByteArray} {bd : Bool} (h : longOk q = false) (k : Kp [g] w w') (b : PB w' M g l p nx 4 sy bd) : LongEnd w w' M g l q p nx sy bd := ⟨k, by rw [if_neg (by rw [h]; simp)]; exact b⟩
theorem LongEnd.yes {w w' : World} {M : Heap} {g : Nat} {l q : Bs} {p : Nat} {nx : Int} {sy : ByteArray} {bd : Bool} (h : longOk q = true) (k : Kp [g] w w') (b : PB w' M g l p (p + (run q + 2) : Nat) 1 (bs (q.take (run q))) bd) : LongEnd w w' M g l q p nx sy bd := ⟨k, by rw [if_pos h]; exact b⟩
set_option maxRecDepth 100000 in
set_option maxHeartbeats 4000000 in
theorem long_calls {g : Nat} {l q : Bs} {w : World} {M : Heap} {nx kd : Int} {sy : ByteArray} {bd : Bool} (hs : (60 :: q) <:+ l) (hl : l.length ≤ 6000) (h : PB w M g l (at_ l (60 :: q) : Nat) nx kd sy bd) :
    Calls Try.prog 47 #[.pointer (some ⟨g, 0, none⟩)] w fun e w' => e = .returned (.tuple #[]) ∧ LongEnd w w' M g l q (at_ l (60 :: q)) nx sy bd := by
  have hp : at_ l (60 :: q) + (q.length + 1) = l.length := by have := hs.length_le; simp [at_] at *; omega
  have hget := fun j hj => get_suf hs j hj
  have hext := ext_suf hs
  generalize at_ l (60 :: q) = p at *
  obtain ⟨hr1, hr2, hr3⟩ := run_spec q
  have Hr1 := Hid.mk hr1
  have Hr3 := Hid.mk hr3
  have HG := Hid.mk hget
  have HX := Hid.mk hext
  have HP := Hid.mk h
  obtain ⟨⟨c0, c1, c2, c3, c4, c5⟩, f1, f2, f3, f4, f5⟩ := h.cells
  have hsz := bs_size l
  clear hr1 hr3 hget hext h hs
  go_enter Try.func47, Try.ntmps47
  go_wp2_with fail
  go_loopg [2] (run q) (fun k v wr => ∃ j : Nat, j ≤ run q ∧ k = run q - j ∧ v = .int .i64 ((p + 1 + j : Nat) : Int) ∧ wr = w)
  case atStart => exact ⟨0, Nat.zero_le _, by simp, by go_num, rfl⟩
  case round =>
    obtain ⟨j, hj, hk, rfl, rfl⟩ := hrel
    by_cases hj1 : j < run q
    · obtain ⟨hlt, hx⟩ := HG.out j (by omega)
      have hs : isSignI (q[j].toNat : Int) = true := (Hr1.out j hj1).2
      go_wp2_with (first | (go_at_call 48; refine (risSym_calls _ _).mono ?_; rintro e w' ⟨rfl, rfl⟩))
      go_roundg (run q - (j + 1))
      case measure => omega
      case rel => exact ⟨j + 1, by omega, rfl, by go_num, rfl⟩
    · obtain rfl : j = run q := by omega
      clear hj hj1 hk
      have HO := Hid.mk (longOk_eq q)
      generalize hRR : run q = R at *
      have HRR := Hid.mk hRR
      clear hRR
      by_cases hA : R = q.length
      · have hlt : ¬ ((p : Int) + 1 + (R : Int) < (l.length : Int)) := by omega
        have HO := Hid.mk (show longOk q = false by rw [HO.out]; simp [hA])
        go_wp2_with (first | (go_at_call 48; refine (risSym_calls _ _).mono ?_; rintro e w' ⟨rfl, rfl⟩))
        go_end0
        exact ⟨rfl, .no HO.out ((Kp.refl _ _).setCell (.inl (by simp)) _) (Box.set HP.out 3 _)⟩
      · obtain ⟨hlt, hx⟩ := HG.out R (by omega)
        have hlt2 : (p : Int) + 1 + (R : Int) < (l.length : Int) := by omega
        have hs : isSignI (q[R].toNat : Int) = false := Hr3.out (by omega)
        have Hd := Hid.mk (show (q.drop R).headD 0 = q[R]'(by omega) by rw [List.drop_eq_getElem_cons (by omega)]; rfl)
        by_cases h62 : q[R]'(by omega) = 62
        · have b62 : (((q[R]'(by omega)).toNat : Int) == 62) = true := by rw [h62]; rfl
          by_cases h2 : 2 ≤ (R : Int)
          · by_cases h16 : (R : Int) ≤ 16
            · have HO := Hid.mk (show longOk q = true by rw [HO.out, Hd.out, h62]; simp; omega)
              go_wp2_with (first | (go_at_call 48; refine (risSym_calls _ _).mono ?_; rintro e w' ⟨rfl, rfl⟩))
              have hx2 := HX.out R
              have HQ := Hid.mk (And.intro hx hs)
              clear hx hs
              go_region
              go_wp2_with fail
              refine bodyPost_ret (results_none rfl _ _ _) rfl ?_
              refine ⟨rfl, .yes HO.out (((((Kp.refl _ _).setCell (.inl (by simp)) _).setCell (.inl (by simp)) _).setCell (.inl (by simp)) _).drew) ?_⟩
              rw [HRR.out, show ((p + (R + 2) : Nat) : Int) = (p : Int) + 1 + R + 1 by omega]
              exact Box.drew (Box.set (Box.set (Box.set HP.out 3 _) 4 _) 2 _)
            · have HO := Hid.mk (show longOk q = false by rw [HO.out, decide_eq_false (p := R ≤ 16) (by omega)]; simp)
              go_wp2_with (first | (go_at_call 48; refine (risSym_calls _ _).mono ?_; rintro e w' ⟨rfl, rfl⟩))
              go_end0
              exact ⟨rfl, .no HO.out ((Kp.refl _ _).setCell (.inl (by simp)) _) (Box.set HP.out 3 _)⟩
          · have HO := Hid.mk (show longOk q = false by rw [HO.out, decide_eq_false (p := 2 ≤ R) (by omega)]; simp)
            go_wp2_with (first | (go_at_call 48; refine (risSym_calls _ _).mono ?_; rintro e w' ⟨rfl, rfl⟩))
            go_end0
            exact ⟨rfl, .no HO.out ((Kp.refl _ _).setCell (.inl (by simp)) _) (Box.set HP.out 3 _)⟩
        · have b62 : (((q[R]'(by omega)).toNat : Int) == 62) = false := cod_ne h62
          have HO := Hid.mk (show longOk q = false by rw [HO.out, Hd.out]; simp [h62])
          go_wp2_with (first | (go_at_call 48; refine (risSym_calls _ _).mono ?_; rintro e w' ⟨rfl, rfl⟩))
          go_end0
          exact ⟨rfl, .no HO.out ((Kp.refl _ _).setCell (.inl (by simp)) _) (Box.set HP.out 3 _)⟩
end Go.Proofs.Ytgdnhlckodhhgaa
