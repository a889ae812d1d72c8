/-
  Symbols and words: which texts are symbols, what is wrong with a word; by the program and by the reference.
-/
import Derived.Test.YtgdnhlckodhhgaaGreatDoorJA
import Derived.Test.YtgdnhlckodhhgaaGreatDoorJQ
import Derived.Test.YtgdnhlckodhhgaaGreatDoorJB
namespace Go.Proofs.YtgdnhlckodhhgaaGreatDoor
open Go.RowKit
set_option linter.unusedVariables false
theorem signB_iff (c : UInt8) : signB c = true ↔ ¬ ((c.toNat : Int) < 33) ∧ ¬ (126 < (c.toNat : Int)) ∧ ((c.toNat : Int) == 60) = false ∧ ((c.toNat : Int) == 62) = false := by
  unfold signB isSignI cod
  generalize (c.toNat : Int) = x
  simp
  omega
theorem take_all {s : Bs} {p : UInt8 → Bool} {j : Nat} (h : j < s.length) : (s.take (j + 1)).all p = ((s.take j).all p && p s[j]) := by
  rw [List.take_succ_eq_append_getElem h, List.all_append, List.all_cons, List.all_nil, Bool.and_true]
theorem all_false {s : Bs} {p : UInt8 → Bool} {j : Nat} (h : j < s.length) (hp : p s[j] = false) : s.all p = false := by
  rw [List.all_eq_false]; exact ⟨s[j], List.getElem_mem h, by simp [hp]⟩
theorem bs_getI {s : Bs} {j : Nat} (h : j < s.length) : (bs s)[j]'(by rw [bs_size]; exact h) = s[j] := by simp [bs, ByteArray.getElem_eq_getElem_data]
set_option maxRecDepth 100000 in
set_option maxHeartbeats 1000000 in
theorem isSymbol_calls (s : Bs) (w : World) (hs : s.length ≤ 1099511627776) :
    Calls Tryz.prog 70 #[.string (bs s)] w fun e w' => e = .returned (.bool (s.all signB && !s.isEmpty)) ∧ w = w' := by
  have h1 := bs_size s
  have h2 := bs_toList s
  go_enter Tryz.func70, Tryz.ntmps70
  go_wp2_with fail
  go_loopg [6] s.length (fun k v6 wr => ∃ j : Nat, j ≤ s.length ∧ k = s.length - j ∧ v6 = .int .i64 (j : Nat) ∧ (s.take j).all signB = true ∧ wr = w)
  case atStart => exact ⟨0, Nat.zero_le _, by simp, rfl, by simp, rfl⟩
  case round =>
    obtain ⟨j, hj, hk, rfl, HJ, rfl⟩ := hrel
    replace HJ := Hid.mk HJ
    by_cases hlt : j < s.length
    · have hg := bs_getI hlt
      have HT := Hid.mk (take_all (p := signB) hlt)
      by_cases hc : signB s[j] = true
      · obtain ⟨g1, g2, g3, g4⟩ := (signB_iff _).1 hc
        have HC := Hid.mk hc
        clear hc
        go_wp2_with fail
        go_roundg (s.length - (j + 1))
        case measure => omega
        case rel => exact ⟨j + 1, by omega, rfl, by go_num, by rw [HT.out, HJ.out, HC.out]; rfl, rfl⟩
      · have HF := Hid.mk (all_false (p := signB) hlt (Bool.eq_false_iff.2 hc))
        have HC := Hid.mk (mt (signB_iff s[j]).2 hc)
        clear hc
        go_wp2_with fail
        all_goals first
          | (go_ret; exact ⟨ret_bool (by rw [HF.out]; rfl), rfl⟩)
          | (exfalso; refine HC.out ⟨by omega, by omega, ?_, ?_⟩ <;> simp_all)
    · obtain rfl : j = s.length := by omega
      have HE := Hid.mk (show s.all signB = true by have := HJ.out; rwa [List.take_length] at this)
      go_wp2_with fail
      go_ret
      exact ⟨ret_bool (by rw [HE.out]; cases s <;> simp), rfl⟩
end Go.Proofs.YtgdnhlckodhhgaaGreatDoor

/-
  Words: their symbols one by one, by the program and by the reference.
-/
namespace Go.Proofs.YtgdnhlckodhhgaaGreatDoor
open Go.RowKit
set_option linter.unusedVariables false
set_option linter.unusedSimpArgs false
/-- Texts in a row that is only read. -/
def WsM (M : Heap) (A : Option Addr) (ws : List Bs) : Prop := ∀ j, (h : j < ws.length) → ∃ b o, A = some ⟨b, o, none⟩ ∧ cellM M ⟨b, o + j, none⟩ = some (.string (bs ws[j]))
theorem WsM.place {M : Heap} {A : Option Addr} {ws : List Bs} (h : WsM M A ws) (hl : 0 < ws.length) : ∃ b o, A = some ⟨b, o, none⟩ ∧ ∀ j, (h : j < ws.length) → cellM M ⟨b, o + j, none⟩ = some (.string (bs ws[j])) := by
  obtain ⟨b, o, rfl, _⟩ := h 0 hl
  refine ⟨b, o, rfl, fun j hj => ?_⟩
  obtain ⟨b', o', e, h'⟩ := h j hj
  injection e with e
  injection e with e1 e2
  subst e1 e2
  exact h'
theorem any_take {α : Type} {l : List α} {p : α → Bool} {j : Nat} (h : j < l.length) : (l.take (j + 1)).any p = ((l.take j).any p || p l[j]) := by
  rw [List.take_succ_eq_append_getElem h, List.any_append, List.any_cons, List.any_nil, Bool.or_false]
theorem any_true {α : Type} {l : List α} {p : α → Bool} {j : Nat} (h : j < l.length) (hp : p l[j] = true) : l.any p = true := by
  rw [List.any_eq_true]; exact ⟨l[j], List.getElem_mem h, hp⟩
theorem alls_false {α : Type} {l : List α} {p : α → Bool} {j : Nat} (h : j < l.length) (hp : p l[j] = false) : l.all p = false := by
  rw [List.all_eq_false]; exact ⟨l[j], List.getElem_mem h, by simp [hp]⟩
theorem alls_take {α : Type} {l : List α} {p : α → Bool} {j : Nat} (h : j < l.length) : (l.take (j + 1)).all p = ((l.take j).all p && p l[j]) := by
  rw [List.take_succ_eq_append_getElem h, List.all_append, List.all_cons, List.all_nil, Bool.and_true]
def long (s : Bs) : Bool := decide (16 < s.length)
def sym (s : Bs) : Bool := s.all signB && !s.isEmpty
def rsym (s : Bs) : Bool := s.all signB && !s.isEmpty && !long s
set_option maxHeartbeats 400000 in
theorem isLong_calls (s : Bs) (w : World) (hs : s.length ≤ 1099511627776) :
    Calls Tryz.prog 69 #[.string (bs s)] w fun e w' => e = .returned (.bool (long s)) ∧ w = w' := by
  have h1 := bs_size s
  go_enter Tryz.func69, Tryz.ntmps69
  go_wp2
  all_goals
    go_ret
    exact ⟨ret_bool (by rw [Bool.eq_iff_iff]; simp [long]; omega), rfl⟩
set_option maxRecDepth 100000 in
set_option maxHeartbeats 1000000 in
theorem rIsSymbol_calls (s : Bs) (w : World) (hs : s.length ≤ 1099511627776) :
    Calls Tryz.prog 124 #[.string (bs s)] w fun e w' => e = .returned (.bool (rsym s)) ∧ w = w' := by
  have h1 := bs_size s
  have h2 := bs_toList s
  go_enter Tryz.func124, Tryz.ntmps124
  go_wp2_with fail
  go_loopg [3] s.length (fun k v3 wr => ∃ j : Nat, j ≤ s.length ∧ k = s.length - j ∧ v3 = .int .i64 (j : Nat) ∧ (s.take j).all signB = true ∧ wr = w)
  case atStart => exact ⟨0, Nat.zero_le _, by simp, rfl, by simp, rfl⟩
  case round =>
    obtain ⟨j, hj, hk, rfl, HJ, rfl⟩ := hrel
    replace HJ := Hid.mk HJ
    by_cases hlt : j < s.length
    · have hg := bs_getI hlt
      have HT := Hid.mk (take_all (p := signB) hlt)
      by_cases hc : signB s[j] = true
      · obtain ⟨g1, g2, g3, g4⟩ := (signB_iff _).1 hc
        have HC := Hid.mk hc
        clear hc
        go_wp2_with fail
        go_roundg (s.length - (j + 1))
        case measure => omega
        case rel => exact ⟨j + 1, by omega, rfl, by go_num, by rw [HT.out, HJ.out, HC.out]; rfl, rfl⟩
      · have HF := Hid.mk (all_false (p := signB) hlt (Bool.eq_false_iff.2 hc))
        have HC := Hid.mk (mt (signB_iff s[j]).2 hc)
        clear hc
        go_wp2_with fail
        all_goals first
          | (go_ret; exact ⟨ret_bool (by rw [rsym, HF.out]; rfl), rfl⟩)
          | (exfalso; refine HC.out ⟨by omega, by omega, ?_, ?_⟩ <;> simp_all)
    · obtain rfl : j = s.length := by omega
      have HE := Hid.mk (show s.all signB = true by have := HJ.out; rwa [List.take_length] at this)
      go_wp2_with fail
      all_goals
        go_ret
        exact ⟨ret_bool (by rw [rsym, HE.out, long, Bool.eq_iff_iff]; cases s <;> simp <;> (try simp at *) <;> omega), rfl⟩
set_option maxRecDepth 100000 in
set_option maxHeartbeats 1000000 in
theorem anyLong_calls (ws : List Bs) (A : Option Addr) (c : Nat) (M : Heap) (w : World) (hM : Mem w M) (h : WsM M A ws) (hs : ∀ s, s ∈ ws → s.length ≤ 1099511627776) (hl : ws.length ≤ 1099511627776) (hc : ws.length ≤ c) :
    Calls Tryz.prog 79 #[.slice A ws.length c] w fun e w' => e = .returned (.bool (ws.any long)) ∧ w = w' := by
  by_cases h0 : ws.length = 0
  · have h0' : ws = [] := List.length_eq_zero_iff.1 h0
    subst h0'
    clear h hs hl hc h0
    go_enter Tryz.func79, Tryz.ntmps79
    go_wp2_with fail
    refine wp_loop_rounds 1 ?_
    rw [rounds_succ]
    go_wp2_with fail
    go_ret
    exact ⟨rfl, rfl⟩
  · obtain ⟨b, o, rfl, hcell⟩ := h.place (by omega)
    go_enter Tryz.func79, Tryz.ntmps79
    go_wp2_with fail
    go_loopg [3] ws.length (fun k v3 wr => ∃ j : Nat, j ≤ ws.length ∧ k = ws.length - j ∧ v3 = .int .i64 (j : Nat) ∧ (ws.take j).any long = false ∧ wr = w)
    case atStart => exact ⟨0, Nat.zero_le _, by simp, rfl, by simp, rfl⟩
    case round =>
      obtain ⟨j, hj, hk, rfl, HJ, rfl⟩ := hrel
      replace HJ := Hid.mk HJ
      by_cases hlt : j < ws.length
      · have hg := hM.cell (hcell j hlt)
        have hz := bs_size ws[j]
        have hb := hs _ (List.getElem_mem hlt)
        have HT := Hid.mk (any_take (p := long) hlt)
        by_cases hc : long ws[j] = true
        · have hc1 : 16 < ws[j].length := of_decide_eq_true hc
          have HF := Hid.mk (any_true (p := long) hlt hc)
          clear hc
          go_wp2_with fail
          go_ret
          exact ⟨ret_bool HF.out.symm, rfl⟩
        · replace hc := Bool.eq_false_iff.2 hc
          have hc1 : ¬ 16 < ws[j].length := of_decide_eq_false hc
          have HC := Hid.mk hc
          clear hc
          go_wp2_with fail
          go_roundg (ws.length - (j + 1))
          case measure => omega
          case rel => exact ⟨j + 1, by omega, rfl, by go_num, by rw [HT.out, HJ.out, HC.out]; rfl, rfl⟩
      · obtain rfl : j = ws.length := by omega
        have HE := Hid.mk (show ws.any long = false by have := HJ.out; rwa [List.take_length] at this)
        go_wp2_with fail
        go_ret
        exact ⟨ret_bool HE.out.symm, rfl⟩
set_option maxRecDepth 100000 in
set_option maxHeartbeats 1000000 in
theorem allSymbols_calls (ws : List Bs) (A : Option Addr) (c : Nat) (M : Heap) (w : World) (hM : Mem w M) (h : WsM M A ws) (hs : ∀ s, s ∈ ws → s.length ≤ 1099511627776) (hl : ws.length ≤ 1099511627776) (hc : ws.length ≤ c) :
    Calls Tryz.prog 80 #[.slice A ws.length c] w fun e w' => e = .returned (.bool (ws.all rsym)) ∧ w = w' := by
  by_cases h0 : ws.length = 0
  · have h0' : ws = [] := List.length_eq_zero_iff.1 h0
    subst h0'
    clear h hs hl hc h0
    go_enter Tryz.func80, Tryz.ntmps80
    go_wp2_with fail
    refine wp_loop_rounds 1 ?_
    rw [rounds_succ]
    go_wp2_with fail
    go_ret
    exact ⟨rfl, rfl⟩
  · obtain ⟨b, o, rfl, hcell⟩ := h.place (by omega)
    go_enter Tryz.func80, Tryz.ntmps80
    go_wp2_with fail
    go_loopg [3] ws.length (fun k v3 wr => ∃ j : Nat, j ≤ ws.length ∧ k = ws.length - j ∧ v3 = .int .i64 (j : Nat) ∧ (ws.take j).all rsym = true ∧ wr = w)
    case atStart => exact ⟨0, Nat.zero_le _, by simp, rfl, by simp, rfl⟩
    case round =>
      obtain ⟨j, hj, hk, rfl, HJ, rfl⟩ := hrel
      replace HJ := Hid.mk HJ
      by_cases hlt : j < ws.length
      · have hg := hM.cell (hcell j hlt)
        have hz := bs_size ws[j]
        have hb := hs _ (List.getElem_mem hlt)
        have HT := Hid.mk (alls_take (p := rsym) hlt)
        by_cases hc : rsym ws[j] = true
        · have HC := Hid.mk hc
          go_wp2_with fail
          refine (rIsSymbol_calls _ _ hb).mono ?_
          rintro e w' ⟨rfl, rfl⟩
          go_wp2_with fail
          go_roundg (ws.length - (j + 1))
          case measure => omega
          case rel => exact ⟨j + 1, by omega, rfl, by go_num, by rw [HT.out, HJ.out, HC.out]; rfl, rfl⟩
        · replace hc := Bool.eq_false_iff.2 hc
          have HF := Hid.mk (alls_false (p := rsym) hlt hc)
          go_wp2_with fail
          refine (rIsSymbol_calls _ _ hb).mono ?_
          rintro e w' ⟨rfl, rfl⟩
          go_wp2_with fail
          go_ret
          exact ⟨ret_bool HF.out.symm, rfl⟩
      · obtain rfl : j = ws.length := by omega
        have HE := Hid.mk (show ws.all rsym = true by have := HJ.out; rwa [List.take_length] at this)
        go_wp2_with fail
        go_ret
        exact ⟨ret_bool HE.out.symm, rfl⟩
end Go.Proofs.YtgdnhlckodhhgaaGreatDoor

/-
  Words: what is wrong with one, by the program and by the reference.
-/
namespace Go.Proofs.YtgdnhlckodhhgaaGreatDoor
open Go.RowKit
set_option linter.unusedVariables false
set_option linter.unusedSimpArgs false
/-- What is wrong with a word. -/
def wordErr (ws : List Bs) : Int := if 60 < ws.length ∨ ws.any long = true then 3 else if ws.all rsym = true then 0 else 1
theorem sym_rsym {ws : List Bs} (h : ws.any long = false) : ws.any (fun s => !sym s) = !ws.all rsym := by
  rw [List.not_all_eq_any_not]
  have e : ∀ s, s ∈ ws → (!sym s) = !rsym s := fun s hs => by
    have := List.any_eq_false.1 h s hs
    simp [sym, rsym, this]
  rw [Bool.eq_iff_iff, List.any_eq_true, List.any_eq_true]
  exact ⟨fun ⟨s, h1, h2⟩ => ⟨s, h1, by rw [← e s h1]; exact h2⟩, fun ⟨s, h1, h2⟩ => ⟨s, h1, by rw [e s h1]; exact h2⟩⟩
set_option maxRecDepth 100000 in
set_option maxHeartbeats 1000000 in
theorem IndexFuncS_calls {K : Nat} {p : Bs → Bool} (hcf : ∀ s w, (callFunc K #[.string s]).run Tryz.prog w = .ok (.enter K #[.string s]) w)
    (hK : ∀ s w, s.length ≤ 1099511627776 → Calls Tryz.prog K #[.string (bs s)] w fun e w' => e = .returned (.bool (p s)) ∧ w = w')
    (ws : List Bs) (A : Option Addr) (c : Nat) (M : Heap) (w : World) (hM : Mem w M) (h : WsM M A ws) (hs : ∀ s, s ∈ ws → s.length ≤ 1099511627776) (hl : ws.length ≤ 1099511627776) (hc : ws.length ≤ c) :
    Calls Tryz.prog 111 #[.slice A ws.length c, .func (.func K) #[] #[]] w fun e w' => (∃ i : Int, e = .returned (.int .i64 i) ∧ decide (0 ≤ i) = ws.any p) ∧ w = w' := by
  have HC := Hid.mk hcf
  clear hcf
  by_cases h0 : ws.length = 0
  · have h0' : ws = [] := List.length_eq_zero_iff.1 h0
    subst h0'
    clear h hs hl hc h0
    go_enter Tryz.func111, Tryz.ntmps111
    go_wp2_with fail
    refine wp_loop_rounds 1 ?_
    rw [rounds_succ]
    go_wp2_with fail
    go_ret
    exact ⟨⟨_, rfl, rfl⟩, rfl⟩
  · obtain ⟨b, o, rfl, hcell⟩ := h.place (by omega)
    go_enter Tryz.func111, Tryz.ntmps111
    go_wp2_with fail
    go_loopg [8] ws.length (fun k v8 wr => ∃ j : Nat, j ≤ ws.length ∧ k = ws.length - j ∧ v8 = .int .i64 (j : Nat) ∧ (ws.take j).any p = false ∧ wr = w)
    case atStart => exact ⟨0, Nat.zero_le _, by simp, rfl, by simp, rfl⟩
    case round =>
      obtain ⟨j, hj, hk, rfl, HJ, rfl⟩ := hrel
      replace HJ := Hid.mk HJ
      by_cases hlt : j < ws.length
      · have hg := hM.cell (hcell j hlt)
        have hz := bs_size ws[j]
        have hb := hs _ (List.getElem_mem hlt)
        have HT := Hid.mk (any_take (p := p) hlt)
        have hcf := fun w => HC.out (bs ws[j]) w
        by_cases hc : p ws[j] = true
        · have HF := Hid.mk (any_true (p := p) hlt hc)
          go_wp2_with fail
          refine (hK _ _ hb).mono ?_
          rintro e w' ⟨rfl, rfl⟩
          go_wp2_with fail
          go_ret
          exact ⟨⟨_, rfl, by rw [HF.out, decide_eq_true_eq]; omega⟩, rfl⟩
        · replace hc := Bool.eq_false_iff.2 hc
          have HD := Hid.mk hc
          go_wp2_with fail
          refine (hK _ _ hb).mono ?_
          rintro e w' ⟨rfl, rfl⟩
          go_wp2_with fail
          go_roundg (ws.length - (j + 1))
          case measure => omega
          case rel => exact ⟨j + 1, by omega, rfl, by go_num, by rw [HT.out, HJ.out, HD.out]; rfl, rfl⟩
      · obtain rfl : j = ws.length := by omega
        have HE := Hid.mk (show ws.any p = false by have := HJ.out; rwa [List.take_length] at this)
        go_wp2_with fail
        go_ret
        exact ⟨⟨_, rfl, by rw [HE.out]; rfl⟩, rfl⟩
set_option maxRecDepth 100000 in
set_option maxHeartbeats 1000000 in
theorem ContainsFuncS_calls {K : Nat} {p : Bs → Bool} (hcf : ∀ s w, (callFunc K #[.string s]).run Tryz.prog w = .ok (.enter K #[.string s]) w)
    (hK : ∀ s w, s.length ≤ 1099511627776 → Calls Tryz.prog K #[.string (bs s)] w fun e w' => e = .returned (.bool (p s)) ∧ w = w')
    (ws : List Bs) (A : Option Addr) (c : Nat) (M : Heap) (w : World) (hM : Mem w M) (h : WsM M A ws) (hs : ∀ s, s ∈ ws → s.length ≤ 1099511627776) (hl : ws.length ≤ 1099511627776) (hc : ws.length ≤ c) :
    Calls Tryz.prog 68 #[.slice A ws.length c, .func (.func K) #[] #[]] w fun e w' => e = .returned (.bool (ws.any p)) ∧ w = w' := by
  have H := Hid.mk (IndexFuncS_calls hcf hK ws A c M w hM h hs hl hc)
  clear hcf hK hM h hs hl hc
  go_enter Tryz.func68, Tryz.ntmps68
  go_wp2_with fail
  refine H.out.mono ?_
  rintro e w' ⟨⟨i, rfl, hi⟩, rfl⟩
  have HI := Hid.mk hi
  clear hi
  go_wp2_with fail
  all_goals
    go_ret
    exact ⟨ret_bool (by rw [← HI.out]), rfl⟩
set_option maxHeartbeats 400000 in
theorem ValidateWord1_calls (s : Bs) (w : World) (hs : s.length ≤ 1099511627776) :
    Calls Tryz.prog 71 #[.string (bs s)] w fun e w' => e = .returned (.bool (!sym s)) ∧ w = w' := by
  go_enter Tryz.func71, Tryz.ntmps71
  go_wp2_with fail
  refine (isSymbol_calls s _ hs).mono ?_
  rintro e w' ⟨rfl, rfl⟩
  go_wp2_with fail
  go_ret
  exact ⟨ret_bool (by simp [sym]), rfl⟩
set_option maxRecDepth 100000 in
set_option maxHeartbeats 1000000 in
theorem rValidateWord_calls (ws : List Bs) (A : Option Addr) (c : Nat) (M : Heap) (w : World) (hM : Mem w M) (h : WsM M A ws) (hs : ∀ s, s ∈ ws → s.length ≤ 1099511627776) (hl : ws.length ≤ 1099511627776) (hc : ws.length ≤ c) :
    Calls Tryz.prog 41 #[.slice A ws.length c] w fun e w' => e = .returned (.int .i64 (wordErr ws)) ∧ w = w' := by
  have HL := Hid.mk (anyLong_calls ws A c M w hM h hs hl hc)
  have HS := Hid.mk (allSymbols_calls ws A c M w hM h hs hl hc)
  clear hM h hs hc
  by_cases h60 : 60 < ws.length
  · have HE := Hid.mk (show wordErr ws = 3 by rw [wordErr, if_pos (.inl h60)])
    go_enter Tryz.func41, Tryz.ntmps41
    go_wp2_with fail
    go_ret
    exact ⟨ret_int HE.out.symm, rfl⟩
  · by_cases hL : ws.any long = true
    · have HE := Hid.mk (show wordErr ws = 3 by rw [wordErr, if_pos (.inr hL)])
      go_enter Tryz.func41, Tryz.ntmps41
      go_wp2_with fail
      refine HL.out.mono ?_
      rintro e w' ⟨rfl, rfl⟩
      go_wp2_with fail
      go_ret
      exact ⟨ret_int HE.out.symm, rfl⟩
    · have hE : wordErr ws = if ws.all rsym = true then 0 else 1 := by rw [wordErr, if_neg (fun x => x.elim h60 hL)]
      replace hL := Bool.eq_false_iff.2 hL
      by_cases hS : ws.all rsym = true
      · have HE := Hid.mk (hE.trans (if_pos hS))
        clear hE
        go_enter Tryz.func41, Tryz.ntmps41
        go_wp2_with fail
        refine HL.out.mono ?_
        rintro e w' ⟨rfl, rfl⟩
        go_wp2_with fail
        refine HS.out.mono ?_
        rintro e w' ⟨rfl, rfl⟩
        go_wp2_with fail
        go_ret
        exact ⟨ret_int HE.out.symm, rfl⟩
      · have HE := Hid.mk (hE.trans (if_neg hS))
        replace hS := Bool.eq_false_iff.2 hS
        clear hE
        go_enter Tryz.func41, Tryz.ntmps41
        go_wp2_with fail
        refine HL.out.mono ?_
        rintro e w' ⟨rfl, rfl⟩
        go_wp2_with fail
        refine HS.out.mono ?_
        rintro e w' ⟨rfl, rfl⟩
        go_wp2_with fail
        go_ret
        exact ⟨ret_int HE.out.symm, rfl⟩
set_option maxRecDepth 100000 in
set_option maxHeartbeats 1000000 in
theorem ValidateWord_calls (ws : List Bs) (A : Option Addr) (c : Nat) (M : Heap) (w : World) (hM : Mem w M) (h : WsM M A ws) (hs : ∀ s, s ∈ ws → s.length ≤ 1099511627776) (hl : ws.length ≤ 1099511627776) (hc : ws.length ≤ c) :
    Calls Tryz.prog 33 #[.slice A ws.length c] w fun e w' => e = .returned (.int .i64 (wordErr ws)) ∧ w = w' := by
  have HL := Hid.mk (ContainsFuncS_calls (K := 69) (p := long) (fun s w => by kernel_rfl) isLong_calls ws A c M w hM h hs hl hc)
  have HS := Hid.mk (ContainsFuncS_calls (K := 71) (p := fun s => !sym s) (fun s w => by kernel_rfl) ValidateWord1_calls ws A c M w hM h hs hl hc)
  clear hM h hs hc
  by_cases h60 : 60 < ws.length
  · have HE := Hid.mk (show wordErr ws = 3 by rw [wordErr, if_pos (.inl h60)])
    go_enter Tryz.func33, Tryz.ntmps33
    go_wp2_with fail
    go_ret
    exact ⟨ret_int HE.out.symm, rfl⟩
  · by_cases hL : ws.any long = true
    · have HE := Hid.mk (show wordErr ws = 3 by rw [wordErr, if_pos (.inr hL)])
      go_enter Tryz.func33, Tryz.ntmps33
      go_wp2_with fail
      refine HL.out.mono ?_
      rintro e w' ⟨rfl, rfl⟩
      go_wp2_with fail
      go_ret
      exact ⟨ret_int HE.out.symm, rfl⟩
    · have hE : wordErr ws = if ws.all rsym = true then 0 else 1 := by rw [wordErr, if_neg (fun x => x.elim h60 hL)]
      replace hL := Bool.eq_false_iff.2 hL
      have hSR := sym_rsym hL
      by_cases hS : ws.all rsym = true
      · have HE := Hid.mk (hE.trans (if_pos hS))
        rw [hS] at hSR
        clear hE
        go_enter Tryz.func33, Tryz.ntmps33
        go_wp2_with fail
        refine HL.out.mono ?_
        rintro e w' ⟨rfl, rfl⟩
        go_wp2_with fail
        refine HS.out.mono ?_
        rintro e w' ⟨rfl, rfl⟩
        go_wp2_with fail
        go_ret
        exact ⟨ret_int HE.out.symm, rfl⟩
      · have HE := Hid.mk (hE.trans (if_neg hS))
        replace hS := Bool.eq_false_iff.2 hS
        rw [hS] at hSR
        clear hE
        go_enter Tryz.func33, Tryz.ntmps33
        go_wp2_with fail
        refine HL.out.mono ?_
        rintro e w' ⟨rfl, rfl⟩
        go_wp2_with fail
        refine HS.out.mono ?_
        rintro e w' ⟨rfl, rfl⟩
        go_wp2_with fail
        go_ret
        exact ⟨ret_int HE.out.symm, rfl⟩
end Go.Proofs.YtgdnhlckodhhgaaGreatDoor

/-
  How many nodes an operation has, by the program and by the reference; what a right expression is.
-/
namespace Go.Proofs.YtgdnhlckodhhgaaGreatDoor
open Go.RowKit
set_option linter.unusedVariables false
set_option linter.unusedSimpArgs false
def kidsP (op : Int) : Int × Int × Bool :=
  if op = 0 ∨ op = 1 ∨ op = 2 ∨ op = 3 then (0, 0, true) else if op = 8 ∨ op = 9 ∨ op = 10 ∨ op = 11 ∨ op = 12 then (1, 1, true)
  else if op = 7 ∨ op = 13 ∨ op = 15 then (2, 2, true) else if op = 14 then (3, 3, true) else if op = 4 ∨ op = 5 ∨ op = 6 then (2, -1, true) else (0, 0, false)
def kidsR (op : Int) : Int × Int :=
  if op = 0 ∨ op = 1 ∨ op = 2 ∨ op = 3 then (0, 0) else if op = 8 ∨ op = 9 ∨ op = 10 ∨ op = 11 ∨ op = 12 then (1, 1)
  else if op = 7 ∨ op = 13 ∨ op = 15 then (2, 2) else if op = 14 then (3, 3) else (2, 40)
theorem kidsPR (op : Int) : kidsP op = if 0 ≤ op ∧ op ≤ 15 then (if op = 4 ∨ op = 5 ∨ op = 6 then (2, -1, true) else ((kidsR op).1, (kidsR op).2, true)) else (0, 0, false) := by
  by_cases h : 0 ≤ op ∧ op ≤ 15
  · obtain ⟨h0, h15⟩ := h
    obtain ⟨n, rfl⟩ : ∃ n : Nat, op = n := ⟨op.toNat, by omega⟩
    have hn : n ≤ 15 := by omega
    match n, hn with
    | 0, _ => rfl | 1, _ => rfl | 2, _ => rfl | 3, _ => rfl | 4, _ => rfl | 5, _ => rfl | 6, _ => rfl | 7, _ => rfl
    | 8, _ => rfl | 9, _ => rfl | 10, _ => rfl | 11, _ => rfl | 12, _ => rfl | 13, _ => rfl | 14, _ => rfl | 15, _ => rfl
  · rw [if_neg h]
    unfold kidsP
    rw [if_neg (by omega), if_neg (by omega), if_neg (by omega), if_neg (by omega), if_neg (by omega)]
set_option maxRecDepth 100000 in
set_option maxHeartbeats 2000000 in
theorem kids_calls (op : Int) (w : World) :
    Calls Tryz.prog 109 #[.int .i64 op] w fun e w' => e = .returned (.tuple #[.int .i64 (kidsP op).1, .int .i64 (kidsP op).2.1, .bool (kidsP op).2.2]) ∧ w = w' := by
  rcases (by omega : op = 0 ∨ op = 1 ∨ op = 2 ∨ op = 3 ∨ op = 4 ∨ op = 5 ∨ op = 6 ∨ op = 7 ∨ op = 8 ∨ op = 9 ∨ op = 10 ∨ op = 11 ∨ op = 12 ∨ op = 13 ∨ op = 14 ∨ op = 15 ∨ (op < 0 ∨ 15 < op)) with rfl | rfl | rfl | rfl | rfl | rfl | rfl | rfl | rfl | rfl | rfl | rfl | rfl | rfl | rfl | rfl | h
  case inr.inr.inr.inr.inr.inr.inr.inr.inr.inr.inr.inr.inr.inr.inr.inr =>
    have e0 : (op == 0) = false := by rw [beq_eq_false_iff_ne]; omega
    have e1 : (op == 1) = false := by rw [beq_eq_false_iff_ne]; omega
    have e2 : (op == 2) = false := by rw [beq_eq_false_iff_ne]; omega
    have e3 : (op == 3) = false := by rw [beq_eq_false_iff_ne]; omega
    have e4 : (op == 4) = false := by rw [beq_eq_false_iff_ne]; omega
    have e5 : (op == 5) = false := by rw [beq_eq_false_iff_ne]; omega
    have e6 : (op == 6) = false := by rw [beq_eq_false_iff_ne]; omega
    have e7 : (op == 7) = false := by rw [beq_eq_false_iff_ne]; omega
    have e8 : (op == 8) = false := by rw [beq_eq_false_iff_ne]; omega
    have e9 : (op == 9) = false := by rw [beq_eq_false_iff_ne]; omega
    have e10 : (op == 10) = false := by rw [beq_eq_false_iff_ne]; omega
    have e11 : (op == 11) = false := by rw [beq_eq_false_iff_ne]; omega
    have e12 : (op == 12) = false := by rw [beq_eq_false_iff_ne]; omega
    have e13 : (op == 13) = false := by rw [beq_eq_false_iff_ne]; omega
    have e14 : (op == 14) = false := by rw [beq_eq_false_iff_ne]; omega
    have e15 : (op == 15) = false := by rw [beq_eq_false_iff_ne]; omega
    have HE : kidsP op = (0, 0, false) := by
      unfold kidsP
      rw [if_neg (by omega), if_neg (by omega), if_neg (by omega), if_neg (by omega), if_neg (by omega)]
    replace HE := Hid.mk HE
    clear h
    go_enter Tryz.func109, Tryz.ntmps109
    go_wp2_with fail
    go_ret3
    exact ⟨by rw [HE.out]; rfl, rfl⟩
  all_goals
    go_enter Tryz.func109, Tryz.ntmps109
    go_wp2_with fail
    go_ret3
    exact ⟨rfl, rfl⟩
set_option maxRecDepth 100000 in
set_option maxHeartbeats 2000000 in
theorem rkids_calls (op : Int) (w : World) :
    Calls Tryz.prog 87 #[.int .i64 op] w fun e w' => e = .returned (.tuple #[.int .i64 (kidsR op).1, .int .i64 (kidsR op).2]) ∧ w = w' := by
  rcases (by omega : op = 0 ∨ op = 1 ∨ op = 2 ∨ op = 3 ∨ op = 4 ∨ op = 5 ∨ op = 6 ∨ op = 7 ∨ op = 8 ∨ op = 9 ∨ op = 10 ∨ op = 11 ∨ op = 12 ∨ op = 13 ∨ op = 14 ∨ op = 15 ∨ (op < 0 ∨ 15 < op)) with rfl | rfl | rfl | rfl | rfl | rfl | rfl | rfl | rfl | rfl | rfl | rfl | rfl | rfl | rfl | rfl | h
  case inr.inr.inr.inr.inr.inr.inr.inr.inr.inr.inr.inr.inr.inr.inr.inr =>
    have e0 : (op == 0) = false := by rw [beq_eq_false_iff_ne]; omega
    have e1 : (op == 1) = false := by rw [beq_eq_false_iff_ne]; omega
    have e2 : (op == 2) = false := by rw [beq_eq_false_iff_ne]; omega
    have e3 : (op == 3) = false := by rw [beq_eq_false_iff_ne]; omega
    have e4 : (op == 4) = false := by rw [beq_eq_false_iff_ne]; omega
    have e5 : (op == 5) = false := by rw [beq_eq_false_iff_ne]; omega
    have e6 : (op == 6) = false := by rw [beq_eq_false_iff_ne]; omega
    have e7 : (op == 7) = false := by rw [beq_eq_false_iff_ne]; omega
    have e8 : (op == 8) = false := by rw [beq_eq_false_iff_ne]; omega
    have e9 : (op == 9) = false := by rw [beq_eq_false_iff_ne]; omega
    have e10 : (op == 10) = false := by rw [beq_eq_false_iff_ne]; omega
    have e11 : (op == 11) = false := by rw [beq_eq_false_iff_ne]; omega
    have e12 : (op == 12) = false := by rw [beq_eq_false_iff_ne]; omega
    have e13 : (op == 13) = false := by rw [beq_eq_false_iff_ne]; omega
    have e14 : (op == 14) = false := by rw [beq_eq_false_iff_ne]; omega
    have e15 : (op == 15) = false := by rw [beq_eq_false_iff_ne]; omega
    have HE : kidsR op = (2, 40) := by
      unfold kidsR
      rw [if_neg (by omega), if_neg (by omega), if_neg (by omega), if_neg (by omega)]
    replace HE := Hid.mk HE
    clear h
    go_enter Tryz.func87, Tryz.ntmps87
    go_wp2_with fail
    go_ret2
    exact ⟨by rw [HE.out]; rfl, rfl⟩
  all_goals
    go_enter Tryz.func87, Tryz.ntmps87
    go_wp2_with fail
    go_ret2
    exact ⟨rfl, rfl⟩
end Go.Proofs.YtgdnhlckodhhgaaGreatDoor

/-
  Size and depth of an expression, by the program and by the reference.
-/
namespace Go.Proofs.YtgdnhlckodhhgaaGreatDoor
open Go.RowKit
set_option linter.unusedVariables false
theorem ExV.row {M : Heap} {e : E} {A : Option Addr} {c : Nat} (h : ExV M e A c) : e.l.length ≤ c ∧ ∀ j, (hj : j < e.l.length) → ∃ b o A' c', A = some ⟨b, o, none⟩ ∧ cellM M ⟨b, o + j * 3, none⟩ = some (.int .i64 e.l[j].op) ∧ cellM M ⟨b, o + j * 3 + 1, none⟩ = some (.string (bs e.l[j].s)) ∧ cellM M ⟨b, o + j * 3 + 2, none⟩ = some (.slice A' e.l[j].l.length c') ∧ ExV M e.l[j] A' c' := by
  have h : ExM M _ e := h
  generalize hv : (.agg #[.int .i64 e.op, .string (bs e.s), .slice A e.l.length c] : Value) = v at h
  cases h with
  | mk op s l A0 c0 sv hc hrow hk =>
    simp only [E.l, E.op, E.s, Value.agg.injEq, Array.mk.injEq, List.cons.injEq, Value.slice.injEq, and_true, true_and] at hv
    obtain ⟨rfl, rfl⟩ := hv
    refine ⟨hc, fun j hj => ?_⟩
    obtain ⟨b, o, h1, h2, h3, h4⟩ := hrow j hj
    obtain ⟨A', c', h5, h6⟩ := (hk j hj).form
    simp only [Value.agg.injEq, Array.mk.injEq, List.cons.injEq, and_true, true_and] at h5
    exact ⟨b, o, A', c', h1, h2, h3, h5 ▸ h4, h6⟩
/-- The row of an expression's list: where it begins. -/
theorem ExV.place {M : Heap} {e : E} {A : Option Addr} {c : Nat} (h : ExV M e A c) (hl : 0 < e.l.length) : ∃ b o, A = some ⟨b, o, none⟩ := by
  obtain ⟨b, o, _, _, h1, _⟩ := h.row.2 0 hl
  exact ⟨b, o, h1⟩
theorem ExV.at_ {M : Heap} {e : E} {b o c : Nat} (h : ExV M e (some ⟨b, o, none⟩) c) (j : Nat) (hj : j < e.l.length) : ∃ A' c', cellM M ⟨b, o + j * 3, none⟩ = some (.int .i64 e.l[j].op) ∧ cellM M ⟨b, o + j * 3 + 1, none⟩ = some (.string (bs e.l[j].s)) ∧ cellM M ⟨b, o + j * 3 + 2, none⟩ = some (.slice A' e.l[j].l.length c') ∧ ExV M e.l[j] A' c' := by
  obtain ⟨b', o', A', c', h1, h2, h3, h4, h5⟩ := h.row.2 j hj
  injection h1 with h1
  injection h1 with h1 h6
  subst h1; subst h6
  exact ⟨A', c', h2, h3, h4, h5⟩
set_option maxRecDepth 100000 in
set_option maxHeartbeats 1000000 in
theorem Size_calls (n : Nat) : ∀ (e : E) (A : Option Addr) (c : Nat) (w : World) (M : Heap), ExV M e A c → Mem w M → e.size ≤ n → n ≤ 1099511627776 →
    Calls Tryz.prog 65 #[.agg #[.int .i64 e.op, .string (bs e.s), .slice A e.l.length c]] w fun en w' => en = .returned (.int .i64 (e.size : Nat)) ∧ Kp [] w w' := by
  induction n with
  | zero => intro e A c w M h hM hn; have := size_pos e; omega
  | succ n ih =>
    intro e A c w M h hM hn hbig
    have HS := Hid.mk (E.size_eq e)
    have hn1 : sizes e.l ≤ n := by rw [E.size_eq] at hn; omega
    have hll := length_sizes e.l
    have hns := nests_sizes e.l
    clear hn
    by_cases hl : e.l.length = 0
    · have hl' : e.l = [] := List.length_eq_zero_iff.1 hl
      have HS2 := Hid.mk (show e.size = 1 by rw [HS.out, hl']; rfl)
      rw [hl]
      clear hl' hl HS hll hns hn1
      go_enter Tryz.func65, Tryz.ntmps65
      go_wp2_with fail
      refine wp_loop_rounds 1 ?_
      rw [rounds_succ]
      go_wp2_with fail
      go_ret
      exact ⟨ret_int (by rw [HS2.out]; rfl), (Kp.refl _ _).alloc _⟩
    · obtain ⟨b, o, rfl⟩ := h.place (by omega)
      have HE := Hid.mk h
      clear h
      go_enter Tryz.func65, Tryz.ntmps65
      go_wp2_with fail
      go_loopg [3, 9] e.l.length (fun k v3 v9 wr => ∃ j : Nat, j ≤ e.l.length ∧ k = e.l.length - j ∧ v9 = .int .i64 (j : Nat) ∧ v3 = .int .i64 ((1 + sizes (e.l.take j) : Nat)) ∧ Mem wr M ∧ Kp [] w wr)
      case atStart => exact ⟨0, Nat.zero_le _, by simp, rfl, rfl, hM.alloc _, (Kp.refl _ _).alloc _⟩
      case round =>
        obtain ⟨j, hj, hk, rfl, rfl, hM', hK⟩ := hrel
        have hlj := sizes_le e.l j
        have hnj := nests_le e.l j
        by_cases hlt : j < e.l.length
        · obtain ⟨A', c', h0, h1, h2, hx⟩ := HE.out.at_ j hlt
          have q0 := hM'.cell h0
          have q1 := hM'.cell h1
          have q2 := hM'.cell h2
          have hjs := size_mem (List.getElem_mem hlt)
          have hjn := nest_size e.l[j]
          have HT := Hid.mk (sizes_take e.l j hlt)
          have HH := Hid.mk (And.intro hM' (And.intro hK hx))
          clear h0 h1 h2 hx hM' hK
          go_wp2_with fail
          refine (ih e.l[j] A' c' _ M HH.out.2.2 (HH.out.1.alloc _) (by omega) (by omega)).mono ?_
          rintro e' w2 ⟨rfl, hk2⟩
          have hT := HT.out
          have hlj2 := sizes_le e.l (j + 1)
          have hnj2 := nests_le e.l (j + 1)
          have hbd : sizes (e.l.take j) + e.l[j].size ≤ 1099511627776 := by
            have := sizes_take e.l j hlt; have := nests_sizes (e.l.take j); omega
          have HT2 := Hid.mk hT
          clear hT
          go_wp2_with fail
          all_goals (go_roundg (e.l.length - (j + 1)))
          all_goals (first | omega | skip)
          all_goals
            have hT := HT2.out
            refine ⟨j + 1, by omega, rfl, by go_num, by rw [hT]; exact congrArg (Value.int .i64) (by omega), ?_, ?_⟩
            · exact (HH.out.1.alloc _).kp hk2 (by simp)
            · exact (HH.out.2.1.alloc _).trans hk2
        · obtain rfl : j = e.l.length := by omega
          have hlt' : ¬ ((e.l.length : Int) < (e.l.length : Int)) := by omega
          have HL := Hid.mk (List.take_length (l := e.l))
          go_wp2_with fail
          go_ret
          exact ⟨ret_int (by rw [HS.out]; omega), hK⟩
set_option maxRecDepth 100000 in
set_option maxHeartbeats 1000000 in
theorem nest_calls (n : Nat) : ∀ (e : E) (A : Option Addr) (c : Nat) (w : World) (M : Heap), ExV M e A c → Mem w M → e.size ≤ n → n ≤ 1099511627776 →
    Calls Tryz.prog 66 #[.agg #[.int .i64 e.op, .string (bs e.s), .slice A e.l.length c]] w fun en w' => en = .returned (.int .i64 (e.nest : Nat)) ∧ Kp [] w w' := by
  induction n with
  | zero => intro e A c w M h hM hn; have := size_pos e; omega
  | succ n ih =>
    intro e A c w M h hM hn hbig
    have HS := Hid.mk (E.nest_eq e)
    have hn1 : sizes e.l ≤ n := by rw [E.size_eq] at hn; omega
    have hll := length_sizes e.l
    have hns := nests_sizes e.l
    clear hn
    by_cases hl : e.l.length = 0
    · have hl' : e.l = [] := List.length_eq_zero_iff.1 hl
      have HS2 := Hid.mk (show e.nest = 1 by rw [HS.out, hl']; rfl)
      rw [hl]
      clear hl' hl HS hll hns hn1
      go_enter Tryz.func66, Tryz.ntmps66
      go_wp2_with fail
      refine wp_loop_rounds 1 ?_
      rw [rounds_succ]
      go_wp2_with fail
      go_ret
      exact ⟨ret_int (by rw [HS2.out]; rfl), (Kp.refl _ _).alloc _⟩
    · obtain ⟨b, o, rfl⟩ := h.place (by omega)
      have HE := Hid.mk h
      clear h
      go_enter Tryz.func66, Tryz.ntmps66
      go_wp2_with fail
      go_loopg [3, 9] e.l.length (fun k v3 v9 wr => ∃ j : Nat, j ≤ e.l.length ∧ k = e.l.length - j ∧ v9 = .int .i64 (j : Nat) ∧ v3 = .int .i64 ((nests (e.l.take j) : Nat)) ∧ Mem wr M ∧ Kp [] w wr)
      case atStart => exact ⟨0, Nat.zero_le _, by simp, rfl, rfl, hM.alloc _, (Kp.refl _ _).alloc _⟩
      case round =>
        obtain ⟨j, hj, hk, rfl, rfl, hM', hK⟩ := hrel
        have hlj := sizes_le e.l j
        have hnj := nests_le e.l j
        by_cases hlt : j < e.l.length
        · obtain ⟨A', c', h0, h1, h2, hx⟩ := HE.out.at_ j hlt
          have q0 := hM'.cell h0
          have q1 := hM'.cell h1
          have q2 := hM'.cell h2
          have hjs := size_mem (List.getElem_mem hlt)
          have hjn := nest_size e.l[j]
          have HT := Hid.mk (nests_take e.l j hlt)
          have HH := Hid.mk (And.intro hM' (And.intro hK hx))
          clear h0 h1 h2 hx hM' hK
          go_wp2_with fail
          refine (ih e.l[j] A' c' _ M HH.out.2.2 (HH.out.1.alloc _) (by omega) (by omega)).mono ?_
          rintro e' w2 ⟨rfl, hk2⟩
          have hT := HT.out
          have hlj2 := sizes_le e.l (j + 1)
          have hnj2 := nests_le e.l (j + 1)
          have hbd : nests (e.l.take j) + e.l[j].nest ≤ 1099511627776 := by
            have := sizes_take e.l j hlt; have := nests_sizes (e.l.take j); omega
          have HT2 := Hid.mk hT
          clear hT
          go_wp2_with fail
          all_goals (go_roundg (e.l.length - (j + 1)))
          all_goals (first | omega | skip)
          all_goals
            have hT := HT2.out
            refine ⟨j + 1, by omega, rfl, by go_num, by rw [hT]; exact congrArg (Value.int .i64) (by omega), ?_, ?_⟩
            · exact (HH.out.1.alloc _).kp hk2 (by simp)
            · exact (HH.out.2.1.alloc _).trans hk2
        · obtain rfl : j = e.l.length := by omega
          have hlt' : ¬ ((e.l.length : Int) < (e.l.length : Int)) := by omega
          have HL := Hid.mk (List.take_length (l := e.l))
          go_wp2_with fail
          go_ret
          exact ⟨ret_int (by rw [HS.out]; omega), hK⟩
set_option maxRecDepth 100000 in
set_option maxHeartbeats 1000000 in
theorem rSize_calls (n : Nat) : ∀ (e : E) (A : Option Addr) (c : Nat) (w : World) (M : Heap), ExV M e A c → Mem w M → e.size ≤ n → n ≤ 1099511627776 →
    Calls Tryz.prog 15 #[.agg #[.int .i64 e.op, .string (bs e.s), .slice A e.l.length c]] w fun en w' => en = .returned (.int .i64 (e.size : Nat)) ∧ Kp [] w w' := by
  induction n with
  | zero => intro e A c w M h hM hn; have := size_pos e; omega
  | succ n ih =>
    intro e A c w M h hM hn hbig
    have HS := Hid.mk (E.size_eq e)
    have hn1 : sizes e.l ≤ n := by rw [E.size_eq] at hn; omega
    have hll := length_sizes e.l
    have hns := nests_sizes e.l
    clear hn
    by_cases hl : e.l.length = 0
    · have hl' : e.l = [] := List.length_eq_zero_iff.1 hl
      have HS2 := Hid.mk (show e.size = 1 by rw [HS.out, hl']; rfl)
      rw [hl]
      clear hl' hl HS hll hns hn1
      go_enter Tryz.func15, Tryz.ntmps15
      go_wp2_with fail
      refine wp_loop_rounds 1 ?_
      rw [rounds_succ]
      go_wp2_with fail
      go_ret
      exact ⟨ret_int (by rw [HS2.out]; rfl), (Kp.refl _ _).alloc _⟩
    · obtain ⟨b, o, rfl⟩ := h.place (by omega)
      have HE := Hid.mk h
      clear h
      go_enter Tryz.func15, Tryz.ntmps15
      go_wp2_with fail
      go_loopg [3, 4] e.l.length (fun k v3 v9 wr => ∃ j : Nat, j ≤ e.l.length ∧ k = e.l.length - j ∧ v9 = .int .i64 (j : Nat) ∧ v3 = .int .i64 ((1 + sizes (e.l.take j) : Nat)) ∧ Mem wr M ∧ Kp [] w wr ∧ Box wr M w.heap.size #[.int .i64 e.op, .string (bs e.s), .slice (some ⟨b, o, none⟩) e.l.length c] 24)
      case atStart => exact ⟨0, Nat.zero_le _, by simp, rfl, rfl, hM.alloc _, (Kp.refl _ _).alloc _, Box.new hM _ _⟩
      case round =>
        obtain ⟨j, hj, hk, rfl, rfl, hM', hK, hb1⟩ := hrel
        obtain ⟨_, _, z2⟩ := hb1.three.1
        have hlj := sizes_le e.l j
        have hnj := nests_le e.l j
        by_cases hlt : j < e.l.length
        · obtain ⟨A', c', h0, h1, h2, hx⟩ := HE.out.at_ j hlt
          have q0 := hM'.cell h0
          have q1 := hM'.cell h1
          have q2 := hM'.cell h2
          have hjs := size_mem (List.getElem_mem hlt)
          have hjn := nest_size e.l[j]
          have HT := Hid.mk (sizes_take e.l j hlt)
          have HH := Hid.mk (And.intro hM' (And.intro hK hx))
          clear h0 h1 h2 hx hM' hK
          go_wp2_with fail
          refine (ih e.l[j] A' c' _ M HH.out.2.2 HH.out.1 (by omega) (by omega)).mono ?_
          rintro e' w2 ⟨rfl, hk2⟩
          have hT := HT.out
          have hlj2 := sizes_le e.l (j + 1)
          have hnj2 := nests_le e.l (j + 1)
          have hbd : sizes (e.l.take j) + e.l[j].size ≤ 1099511627776 := by
            have := sizes_take e.l j hlt; have := nests_sizes (e.l.take j); omega
          have HT2 := Hid.mk hT
          clear hT
          go_wp2_with fail
          all_goals (go_roundg (e.l.length - (j + 1)))
          all_goals (first | omega | skip)
          all_goals
            have hT := HT2.out
            refine ⟨j + 1, by omega, rfl, by go_num, by rw [hT]; exact congrArg (Value.int .i64) (by omega), ?_, ?_, hb1.same hk2 (by simp)⟩
            · exact HH.out.1.kp hk2 (by simp)
            · exact HH.out.2.1.trans hk2
        · obtain rfl : j = e.l.length := by omega
          have hlt' : ¬ ((e.l.length : Int) < (e.l.length : Int)) := by omega
          have HL := Hid.mk (List.take_length (l := e.l))
          go_wp2_with fail
          go_ret
          exact ⟨ret_int (by rw [HS.out]; omega), hK⟩
set_option maxRecDepth 100000 in
set_option maxHeartbeats 1000000 in
theorem rdeep_calls (n : Nat) : ∀ (e : E) (A : Option Addr) (c : Nat) (w : World) (M : Heap), ExV M e A c → Mem w M → e.size ≤ n → n ≤ 1099511627776 →
    Calls Tryz.prog 44 #[.agg #[.int .i64 e.op, .string (bs e.s), .slice A e.l.length c]] w fun en w' => en = .returned (.int .i64 (e.nest : Nat)) ∧ Kp [] w w' := by
  induction n with
  | zero => intro e A c w M h hM hn; have := size_pos e; omega
  | succ n ih =>
    intro e A c w M h hM hn hbig
    have HS := Hid.mk (E.nest_eq e)
    have hn1 : sizes e.l ≤ n := by rw [E.size_eq] at hn; omega
    have hll := length_sizes e.l
    have hns := nests_sizes e.l
    clear hn
    by_cases hl : e.l.length = 0
    · have hl' : e.l = [] := List.length_eq_zero_iff.1 hl
      have HS2 := Hid.mk (show e.nest = 1 by rw [HS.out, hl']; rfl)
      rw [hl]
      clear hl' hl HS hll hns hn1
      go_enter Tryz.func44, Tryz.ntmps44
      go_wp2_with fail
      refine wp_loop_rounds 1 ?_
      rw [rounds_succ]
      go_wp2_with fail
      go_ret
      exact ⟨ret_int (by rw [HS2.out]; rfl), (Kp.refl _ _).alloc _⟩
    · obtain ⟨b, o, rfl⟩ := h.place (by omega)
      have HE := Hid.mk h
      clear h
      go_enter Tryz.func44, Tryz.ntmps44
      go_wp2_with fail
      go_loopg [3, 4] e.l.length (fun k v3 v9 wr => ∃ j : Nat, j ≤ e.l.length ∧ k = e.l.length - j ∧ v9 = .int .i64 (j : Nat) ∧ v3 = .int .i64 ((nests (e.l.take j) : Nat)) ∧ Mem wr M ∧ Kp [] w wr ∧ Box wr M w.heap.size #[.int .i64 e.op, .string (bs e.s), .slice (some ⟨b, o, none⟩) e.l.length c] 24)
      case atStart => exact ⟨0, Nat.zero_le _, by simp, rfl, rfl, hM.alloc _, (Kp.refl _ _).alloc _, Box.new hM _ _⟩
      case round =>
        obtain ⟨j, hj, hk, rfl, rfl, hM', hK, hb1⟩ := hrel
        obtain ⟨_, _, z2⟩ := hb1.three.1
        have hlj := sizes_le e.l j
        have hnj := nests_le e.l j
        by_cases hlt : j < e.l.length
        · obtain ⟨A', c', h0, h1, h2, hx⟩ := HE.out.at_ j hlt
          have q0 := hM'.cell h0
          have q1 := hM'.cell h1
          have q2 := hM'.cell h2
          have hjs := size_mem (List.getElem_mem hlt)
          have hjn := nest_size e.l[j]
          have HT := Hid.mk (nests_take e.l j hlt)
          have HH := Hid.mk (And.intro hM' (And.intro hK hx))
          clear h0 h1 h2 hx hM' hK
          go_wp2_with fail
          refine (ih e.l[j] A' c' _ M HH.out.2.2 HH.out.1 (by omega) (by omega)).mono ?_
          rintro e' w2 ⟨rfl, hk2⟩
          have hT := HT.out
          have hlj2 := sizes_le e.l (j + 1)
          have hnj2 := nests_le e.l (j + 1)
          have hbd : nests (e.l.take j) + e.l[j].nest ≤ 1099511627776 := by
            have := sizes_take e.l j hlt; have := nests_sizes (e.l.take j); omega
          have HT2 := Hid.mk hT
          clear hT
          go_wp2_with fail
          all_goals (go_roundg (e.l.length - (j + 1)))
          all_goals (first | omega | skip)
          all_goals
            have hT := HT2.out
            refine ⟨j + 1, by omega, rfl, by go_num, by rw [hT]; exact congrArg (Value.int .i64) (by omega), ?_, ?_, hb1.same hk2 (by simp)⟩
            · exact HH.out.1.kp hk2 (by simp)
            · exact HH.out.2.1.trans hk2
        · obtain rfl : j = e.l.length := by omega
          have hlt' : ¬ ((e.l.length : Int) < (e.l.length : Int)) := by omega
          have HL := Hid.mk (List.take_length (l := e.l))
          go_wp2_with fail
          go_ret
          exact ⟨ret_int (by rw [HS.out]; omega), hK⟩
end Go.Proofs.YtgdnhlckodhhgaaGreatDoor

/-
  Which expressions are right, by the reference.
-/
namespace Go.Proofs.YtgdnhlckodhhgaaGreatDoor
open Go.RowKit
set_option linter.unusedVariables false
set_option linter.unusedSimpArgs false
mutual
/-- The longest text in an expression. -/
def E.wide : E → Nat | .mk _ s l => max s.length (wides l)
def wides : List E → Nat | [] => 0 | e :: l => max e.wide (wides l)
end
theorem E.wide_eq (e : E) : e.wide = max e.s.length (wides e.l) := by cases e; simp [E.wide, E.s, E.l]
theorem wide_mem {l : List E} {e : E} (h : e ∈ l) : e.wide ≤ wides l := by
  induction l with
  | nil => cases h
  | cons a l ih =>
    rcases List.mem_cons.1 h with rfl | h
    · simp [wides]; omega
    · have := ih h; simp [wides]; omega
/-- A node's own rules. -/
def fits (op : Int) (s : Bs) (n : Nat) : Bool :=
  decide (0 ≤ op) && decide (op ≤ 15) && decide ((kidsR op).1 ≤ n) && decide ((n : Int) ≤ (kidsR op).2) && (if op = 0 then wordErr [s] == 0 else s.isEmpty)
mutual
def E.right : E → Bool | .mk op s l => fits op s l.length && rights l
def rights : List E → Bool | [] => true | e :: l => e.right && rights l
end
theorem rights_all (l : List E) : rights l = l.all E.right := by
  induction l with
  | nil => simp [rights]
  | cons a l ih => simp [rights, ih]
theorem E.right_eq (e : E) : e.right = (fits e.op e.s e.l.length && e.l.all E.right) := by cases e; simp [E.right, E.op, E.s, E.l, rights_all]
end Go.Proofs.YtgdnhlckodhhgaaGreatDoor

/-
  Which expressions are right, by the reference: its walk.
-/
namespace Go.Proofs.YtgdnhlckodhhgaaGreatDoor
open Go.RowKit
set_option linter.unusedVariables false
set_option linter.unusedSimpArgs false
theorem fits_no {op : Int} {s : Bs} {n : Nat} (h : fits op s n = false) (l : List E) (hl : l.length = n) : (fits op s l.length && l.all E.right) = false := by rw [hl, h]; rfl
theorem row_at' (w : World) (o o' : Obj) : ((w.alloc o).alloc o').heap[w.heap.size + 1]? = some o' := by
  have h := heap_alloc_new (w.alloc o) o'
  have e : (w.alloc o).heap.size = w.heap.size + 1 := by simp
  rwa [e] at h
theorem one_cell {w : World} {b : Nat} {t : TypeId} {s : Bs} {M : Heap} (h : w.heap[b]? = some (.cells #[.string (bs s)] t (0, 0))) : WsM (M.put b (.cells #[.string (bs s)] t)) (some ⟨b, 0, none⟩) [s] := by
  intro j hj
  refine ⟨b, 0, rfl, ?_⟩
  obtain rfl : j = 0 := by simp at hj; omega
  simp [cellM, Heap.put_same]
set_option maxRecDepth 100000 in
set_option maxHeartbeats 2000000 in
theorem risRight_calls (n : Nat) : ∀ (e : E) (A : Option Addr) (c : Nat) (w : World) (M : Heap), ExV M e A c → Mem w M → e.size ≤ n → n ≤ 1099511627776 → e.wide ≤ 1099511627776 →
    Calls Tryz.prog 45 #[.agg #[.int .i64 e.op, .string (bs e.s), .slice A e.l.length c]] w fun en w' => en = .returned (.bool e.right) ∧ Kp [] w w' := by
  induction n with
  | zero => intro e A c w M h hM hn; have := size_pos e; omega
  | succ n ih =>
    intro e A c w M h hM hn hbig hwide
    have HS := Hid.mk (E.right_eq e)
    have hn1 : sizes e.l ≤ n := by rw [E.size_eq] at hn; omega
    have hll := length_sizes e.l
    have hw1 : e.s.length ≤ 1099511627776 := by rw [E.wide_eq] at hwide; omega
    have hw2 : wides e.l ≤ 1099511627776 := by rw [E.wide_eq] at hwide; omega
    clear hn hwide
    by_cases hop0 : e.op < 0
    · have HR := Hid.mk (show e.right = false by rw [HS.out, fits, decide_eq_false (by omega : ¬ 0 ≤ e.op)]; simp)
      clear HS
      go_enter Tryz.func45, Tryz.ntmps45
      go_wp2_with fail
      go_ret
      exact ⟨ret_bool HR.out.symm, (Kp.refl _ _).alloc _⟩
    · by_cases hop15 : 15 < e.op
      · have HR := Hid.mk (show e.right = false by rw [HS.out, fits, decide_eq_false (by omega : ¬ e.op ≤ 15)]; simp)
        clear HS
        go_enter Tryz.func45, Tryz.ntmps45
        go_wp2_with fail
        go_ret
        exact ⟨ret_bool HR.out.symm, (Kp.refl _ _).alloc _⟩
      · have hF : fits e.op e.s e.l.length = (decide ((kidsR e.op).1 ≤ e.l.length) && decide ((e.l.length : Int) ≤ (kidsR e.op).2) && (if e.op = 0 then wordErr [e.s] == 0 else e.s.isEmpty)) := by
          rw [fits, decide_eq_true (by omega : 0 ≤ e.op), decide_eq_true (by omega : e.op ≤ 15)]; simp
        have hK := rkids_calls e.op
        have hk0 : e.op = 0 → kidsR e.op = (0, 0) := fun hh => by rw [hh]; rfl
        generalize kidsR e.op = ab at hF hK hk0
        obtain ⟨a, b⟩ := ab
        have HF := Hid.mk hF
        have HK := Hid.mk hK
        clear hF hK
        have hts := bs_toList e.s
        by_cases ha : (e.l.length : Int) < a
        · have HR := Hid.mk (show e.right = false by rw [HS.out, HF.out, decide_eq_false (by dsimp only; omega)]; simp)
          clear HS HF
          go_enter Tryz.func45, Tryz.ntmps45
          go_wp2_with fail
          refine (HK.out _).mono ?_
          rintro en w' ⟨rfl, rfl⟩
          go_wp2_with fail
          go_ret
          exact ⟨ret_bool HR.out.symm, (Kp.refl _ _).alloc _⟩
        · by_cases hb : b < (e.l.length : Int)
          · have HR := Hid.mk (show e.right = false by rw [HS.out, HF.out, decide_eq_false (p := (e.l.length : Int) ≤ _) (by dsimp only; omega)]; simp)
            clear HS HF hk0
            go_enter Tryz.func45, Tryz.ntmps45
            go_wp2_with fail
            refine (HK.out _).mono ?_
            rintro en w' ⟨rfl, rfl⟩
            go_wp2_with fail
            go_ret
            exact ⟨ret_bool HR.out.symm, (Kp.refl _ _).alloc _⟩
          · have hF : fits e.op e.s e.l.length = (if e.op = 0 then wordErr [e.s] == 0 else e.s.isEmpty) := by
              rw [HF.out, decide_eq_true (by dsimp only; omega), decide_eq_true (by dsimp only; omega)]; simp
            clear HF
            by_cases h0 : e.op = 0
            · have hab := hk0 h0
              injection hab with e1 e2
              subst e1 e2
              have hl0 : e.l = [] := List.length_eq_zero_iff.1 (by omega)
              have hl0' : e.l.length = 0 := by rw [hl0]; rfl
              rw [if_pos h0] at hF
              have hR := HS.out
              rw [hF, hl0] at hR
              clear HS hF hk0 ha hb hop0 hop15 hll hn1 ih
              rw [h0] at HK ⊢
              rw [hl0']
              clear h0
              have hW := fun w' hM' hr => rValidateWord_calls [e.s] (some ⟨w.heap.size + 1, 0, none⟩) 1 (M.put (w.heap.size + 1) (.cells #[.string (bs e.s)] 9)) w' hM' hr (fun s hs => by simp at hs; rw [hs]; exact hw1) (by simp) (by simp)
              generalize wordErr [e.s] = k at hR hW
              have HW := Hid.mk hW
              clear hW
              have hsz : (w.alloc (.cells #[.int .i64 0, .string (bs e.s), .slice A 0 c] 24)).heap.size = w.heap.size + 1 := by simp
              have hrow := row_at' w (.cells #[.int .i64 0, .string (bs e.s), .slice A 0 c] 24) (.cells #[.string (bs e.s)] 9)
              have hM1 : Mem ((w.alloc (.cells #[.int .i64 0, .string (bs e.s), .slice A 0 c] 24)).alloc (.cells #[.string (bs e.s)] 9)) (M.put (w.heap.size + 1) (.cells #[.string (bs e.s)] 9)) := ((hM.alloc _).alloc _).put hrow
              have HM := Hid.mk (HW.out _ hM1 (one_cell hrow))
              clear HW hM1 hrow
              by_cases hk : k = 0
              · subst hk
                have HR := Hid.mk (show e.right = true by rw [hR]; rfl)
                clear hR
                go_enter Tryz.func45, Tryz.ntmps45
                go_wp2_with fail
                refine (HK.out _).mono ?_
                rintro en w' ⟨rfl, rfl⟩
                go_wp2_with fail
                refine HM.out.mono ?_
                rintro en w' ⟨rfl, rfl⟩
                go_wp2_with fail
                refine wp_loop_rounds 1 ?_
                rw [rounds_succ]
                go_wp2_with fail
                go_ret
                exact ⟨ret_bool HR.out.symm, ((Kp.refl _ _).alloc _).alloc _⟩
              · have hk' : (k == 0) = false := by simpa using hk
                have HR := Hid.mk (show e.right = false by rw [hR, hk']; rfl)
                clear hR
                go_enter Tryz.func45, Tryz.ntmps45
                go_wp2_with fail
                refine (HK.out _).mono ?_
                rintro en w' ⟨rfl, rfl⟩
                go_wp2_with fail
                refine HM.out.mono ?_
                rintro en w' ⟨rfl, rfl⟩
                go_wp2_with fail
                go_ret
                exact ⟨ret_bool HR.out.symm, ((Kp.refl _ _).alloc _).alloc _⟩
            · rw [if_neg h0] at hF
              have h0' : (e.op == 0) = false := by simpa using h0
              have h0'' : (e.op != 0) = true := by simpa using h0
              by_cases hs : e.s.isEmpty = true
              · have HR := Hid.mk (show e.right = e.l.all E.right by rw [HS.out, hF, hs]; simp)
                clear HS hF hk0
                by_cases hl : e.l.length = 0
                · have hl' : e.l = [] := List.length_eq_zero_iff.1 hl
                  have HR := Hid.mk (show e.right = true by rw [HR.out, hl']; rfl)
                  rw [hl] at ha hb ⊢
                  replace ha : ¬ (0 : Int) < a := by simpa using ha
                  replace hb : ¬ b < (0 : Int) := by simpa using hb
                  clear hl hl'
                  go_enter Tryz.func45, Tryz.ntmps45
                  go_wp2_with fail
                  refine (HK.out _).mono ?_
                  rintro en w' ⟨rfl, rfl⟩
                  go_wp2_with fail
                  refine wp_loop_rounds 1 ?_
                  rw [rounds_succ]
                  go_wp2_with fail
                  go_ret
                  exact ⟨ret_bool HR.out.symm, (Kp.refl _ _).alloc _⟩
                · obtain ⟨bb, o, rfl⟩ := h.place (by omega)
                  have HE := Hid.mk h
                  clear h
                  go_enter Tryz.func45, Tryz.ntmps45
                  go_wp2_with fail
                  refine (HK.out _).mono ?_
                  rintro en w' ⟨rfl, rfl⟩
                  go_wp2_with fail
                  go_loopg [5] e.l.length (fun k v5 wr => ∃ j : Nat, j ≤ e.l.length ∧ k = e.l.length - j ∧ v5 = .int .i64 (j : Nat) ∧ (e.l.take j).all E.right = true ∧ Mem wr M ∧ Kp [] w wr ∧ Box wr M w.heap.size #[.int .i64 e.op, .string (bs e.s), .slice (some ⟨bb, o, none⟩) e.l.length c] 24)
                  case atStart => exact ⟨0, Nat.zero_le _, by simp, rfl, by simp, hM.alloc _, (Kp.refl _ _).alloc _, Box.new hM _ _⟩
                  case round =>
                    obtain ⟨j, hj, hk, rfl, HJ, hM', hK', hb1⟩ := hrel
                    replace HJ := Hid.mk HJ
                    obtain ⟨_, _, z2⟩ := hb1.three.1
                    by_cases hlt : j < e.l.length
                    · obtain ⟨A', c', hx0, hx1, hx2, hx⟩ := HE.out.at_ j hlt
                      have q0 := hM'.cell hx0
                      have q1 := hM'.cell hx1
                      have q2 := hM'.cell hx2
                      have hjs := size_mem (List.getElem_mem hlt)
                      have hjw := wide_mem (List.getElem_mem hlt)
                      have HT := Hid.mk (alls_take (p := E.right) hlt)
                      have HH := Hid.mk (And.intro hM' (And.intro hK' hx))
                      clear hx0 hx1 hx2 hx hM' hK'
                      by_cases hc : e.l[j].right = true
                      · have HC := Hid.mk hc
                        go_wp2_with fail
                        refine (ih e.l[j] A' c' _ M HH.out.2.2 HH.out.1 (by omega) (by omega) (by omega)).mono ?_
                        rintro e' w2 ⟨rfl, hk2⟩
                        go_wp2_with fail
                        go_roundg (e.l.length - (j + 1))
                        case measure => omega
                        case rel => exact ⟨j + 1, by omega, rfl, by go_num, by rw [HT.out, HJ.out, HC.out]; rfl, HH.out.1.kp hk2 (by simp), HH.out.2.1.trans hk2, hb1.same hk2 (by simp)⟩
                      · replace hc := Bool.eq_false_iff.2 hc
                        have HF := Hid.mk (HR.out.trans (alls_false (p := E.right) hlt hc))
                        go_wp2_with fail
                        refine (ih e.l[j] A' c' _ M HH.out.2.2 HH.out.1 (by omega) (by omega) (by omega)).mono ?_
                        rintro e' w2 ⟨rfl, hk2⟩
                        go_wp2_with fail
                        go_ret
                        exact ⟨ret_bool HF.out.symm, HH.out.2.1.trans hk2⟩
                    · obtain rfl : j = e.l.length := by omega
                      have hlt' : ¬ ((e.l.length : Int) < (e.l.length : Int)) := by omega
                      have HX := Hid.mk (show e.right = true by have := HJ.out; rw [List.take_length] at this; rw [HR.out, this])
                      go_wp2_with fail
                      go_ret
                      exact ⟨ret_bool HX.out.symm, hK'⟩
              · replace hs := Bool.eq_false_iff.2 hs
                have HR := Hid.mk (show e.right = false by rw [HS.out, hF, hs]; simp)
                clear HS hF hk0
                go_enter Tryz.func45, Tryz.ntmps45
                go_wp2_with fail
                refine (HK.out _).mono ?_
                rintro en w' ⟨rfl, rfl⟩
                go_wp2_with fail
                go_ret
                exact ⟨ret_bool HR.out.symm, (Kp.refl _ _).alloc _⟩
end Go.Proofs.YtgdnhlckodhhgaaGreatDoor

/-
  Which expressions are right, by the program.
-/
namespace Go.Proofs.YtgdnhlckodhhgaaGreatDoor
open Go.RowKit
set_option linter.unusedVariables false
set_option linter.unusedSimpArgs false
set_option maxRecDepth 100000 in
set_option maxHeartbeats 1000000 in
theorem IndexFuncE_calls {K : Nat} {p : E → Bool} {e : E} {A : Option Addr} {c : Nat} {M : Heap} (h : ExV M e A c)
    (hcf : ∀ v w, (callFunc K #[v]).run Tryz.prog w = .ok (.enter K #[v]) w)
    (hK : ∀ x A c w, x ∈ e.l → ExV M x A c → Mem w M → Calls Tryz.prog K #[.agg #[.int .i64 x.op, .string (bs x.s), .slice A x.l.length c]] w fun en w' => en = .returned (.bool (p x)) ∧ Kp [] w w')
    (w : World) (hM : Mem w M) (hl : e.l.length ≤ 1099511627776) :
    Calls Tryz.prog 115 #[.slice A e.l.length c, .func (.func K) #[] #[]] w fun en w' => (∃ i : Int, en = .returned (.int .i64 i) ∧ decide (0 ≤ i) = e.l.any p) ∧ Kp [] w w' := by
  have HC := Hid.mk hcf
  clear hcf
  by_cases h0 : e.l.length = 0
  · have HA := Hid.mk (show e.l.any p = false by rw [List.length_eq_zero_iff.1 h0]; rfl)
    rw [h0]
    clear h hl h0 hK
    go_enter Tryz.func115, Tryz.ntmps115
    go_wp2_with fail
    refine wp_loop_rounds 1 ?_
    rw [rounds_succ]
    go_wp2_with fail
    go_ret
    exact ⟨⟨_, rfl, HA.out.symm⟩, Kp.refl _ _⟩
  · obtain ⟨b, o, rfl⟩ := h.place (by omega)
    have HE := Hid.mk h
    have HK := Hid.mk hK
    clear h hK
    go_enter Tryz.func115, Tryz.ntmps115
    go_wp2_with fail
    go_loopg [8] e.l.length (fun k v8 wr => ∃ j : Nat, j ≤ e.l.length ∧ k = e.l.length - j ∧ v8 = .int .i64 (j : Nat) ∧ (e.l.take j).any p = false ∧ Mem wr M ∧ Kp [] w wr)
    case atStart => exact ⟨0, Nat.zero_le _, by simp, rfl, by simp, hM, Kp.refl _ _⟩
    case round =>
      obtain ⟨j, hj, hk, rfl, HJ, hM', hK'⟩ := hrel
      replace HJ := Hid.mk HJ
      by_cases hlt : j < e.l.length
      · obtain ⟨A', c', hx0, hx1, hx2, hx⟩ := HE.out.at_ j hlt
        have q0 := hM'.cell hx0
        have q1 := hM'.cell hx1
        have q2 := hM'.cell hx2
        have HT := Hid.mk (any_take (p := p) hlt)
        have HH := Hid.mk (And.intro hM' (And.intro hK' hx))
        have hcf := fun w => HC.out (.agg #[.int .i64 e.l[j].op, .string (bs e.l[j].s), .slice A' e.l[j].l.length c']) w
        clear hx0 hx1 hx2 hx hM' hK'
        by_cases hc : p e.l[j] = true
        · have HF := Hid.mk (any_true (p := p) hlt hc)
          go_wp2_with fail
          refine (HK.out e.l[j] A' c' _ (List.getElem_mem hlt) HH.out.2.2 HH.out.1).mono ?_
          rintro en w2 ⟨rfl, hk2⟩
          go_wp2_with fail
          go_ret
          exact ⟨⟨_, rfl, by rw [HF.out, decide_eq_true_eq]; omega⟩, HH.out.2.1.trans hk2⟩
        · replace hc := Bool.eq_false_iff.2 hc
          have HD := Hid.mk hc
          go_wp2_with fail
          refine (HK.out e.l[j] A' c' _ (List.getElem_mem hlt) HH.out.2.2 HH.out.1).mono ?_
          rintro en w2 ⟨rfl, hk2⟩
          go_wp2_with fail
          go_roundg (e.l.length - (j + 1))
          case measure => omega
          case rel => exact ⟨j + 1, by omega, rfl, by go_num, by rw [HT.out, HJ.out, HD.out]; rfl, HH.out.1.kp hk2 (by simp), HH.out.2.1.trans hk2⟩
      · obtain rfl : j = e.l.length := by omega
        have hlt' : ¬ ((e.l.length : Int) < (e.l.length : Int)) := by omega
        have HX := Hid.mk (show e.l.any p = false by have := HJ.out; rwa [List.take_length] at this)
        go_wp2_with fail
        go_ret
        exact ⟨⟨_, rfl, by rw [HX.out]; rfl⟩, hK'⟩
set_option maxRecDepth 100000 in
set_option maxHeartbeats 1000000 in
theorem ContainsFuncE_calls {K : Nat} {p : E → Bool} {e : E} {A : Option Addr} {c : Nat} {M : Heap} (h : ExV M e A c)
    (hcf : ∀ v w, (callFunc K #[v]).run Tryz.prog w = .ok (.enter K #[v]) w)
    (hK : ∀ x A c w, x ∈ e.l → ExV M x A c → Mem w M → Calls Tryz.prog K #[.agg #[.int .i64 x.op, .string (bs x.s), .slice A x.l.length c]] w fun en w' => en = .returned (.bool (p x)) ∧ Kp [] w w')
    (w : World) (hM : Mem w M) (hl : e.l.length ≤ 1099511627776) :
    Calls Tryz.prog 76 #[.slice A e.l.length c, .func (.func K) #[] #[]] w fun en w' => en = .returned (.bool (e.l.any p)) ∧ Kp [] w w' := by
  have H := Hid.mk (IndexFuncE_calls h hcf hK w hM hl)
  clear h hcf hK hM hl
  go_enter Tryz.func76, Tryz.ntmps76
  go_wp2_with fail
  refine H.out.mono ?_
  rintro en w' ⟨⟨i, rfl, hi⟩, hk⟩
  have HI := Hid.mk hi
  clear hi
  go_wp2_with fail
  all_goals
    go_ret
    exact ⟨ret_bool (by rw [← HI.out]), hk⟩
def wantP (op : Int) (n : Nat) : Bool := (kidsP op).2.2 && decide ((kidsP op).1 ≤ n) && !(decide (0 ≤ (kidsP op).2.1) && decide ((kidsP op).2.1 < n))
theorem fitsP (op : Int) (s : Bs) (n : Nat) (hn : n ≤ 40) : fits op s n = (wantP op n && (if op = 0 then wordErr [s] == 0 else s.isEmpty)) := by
  rw [fits, wantP, kidsPR]
  by_cases h : 0 ≤ op ∧ op ≤ 15
  · rw [if_pos h, decide_eq_true h.1, decide_eq_true h.2]
    by_cases h4 : op = 4 ∨ op = 5 ∨ op = 6
    · rw [if_pos h4]
      have hk : kidsR op = (2, 40) := by rcases h4 with rfl | rfl | rfl <;> rfl
      rw [hk]
      have h40 : (n : Int) ≤ 40 := by omega
      simp [h40]
    · rw [if_neg h4]
      have h0 : 0 ≤ (kidsR op).2 := by unfold kidsR; split <;> (try split) <;> (try split) <;> (try split) <;> simp
      simp only [Bool.true_and, decide_eq_true h0]
      congr 2
      rw [Bool.eq_iff_iff]; simp
  · rw [if_neg h]
    have : (decide (0 ≤ op) && decide (op ≤ 15)) = false := by rw [Bool.eq_false_iff]; simpa using h
    rw [this]; simp
end Go.Proofs.YtgdnhlckodhhgaaGreatDoor

/-
  Which expressions are right, by the program: its walk.
-/
namespace Go.Proofs.YtgdnhlckodhhgaaGreatDoor
open Go.RowKit
set_option linter.unusedVariables false
set_option linter.unusedSimpArgs false
theorem all_any_not (l : List E) : (!l.any fun x => !x.right) = l.all E.right := by
  rw [List.all_eq_not_any_not]
theorem isRight1_calls {x : E} {A : Option Addr} {c : Nat} {w : World} {M : Heap} (hM : Mem w M)
    (h : ∀ w, Mem w M → Calls Tryz.prog 67 #[.agg #[.int .i64 x.op, .string (bs x.s), .slice A x.l.length c]] w fun en w' => en = .returned (.bool x.right) ∧ Kp [] w w') :
    Calls Tryz.prog 110 #[.agg #[.int .i64 x.op, .string (bs x.s), .slice A x.l.length c]] w fun en w' => en = .returned (.bool (!x.right)) ∧ Kp [] w w' := by
  have H := Hid.mk h
  clear h
  go_enter Tryz.func110, Tryz.ntmps110
  go_wp2_with fail
  refine (H.out _ (hM.alloc _)).mono ?_
  rintro en w' ⟨rfl, hk⟩
  go_wp2_with fail
  go_ret
  exact ⟨rfl, ((Kp.refl _ _).alloc _).trans hk⟩
set_option maxRecDepth 100000 in
set_option maxHeartbeats 4000000 in
theorem isRight_calls (n : Nat) : ∀ (e : E) (A : Option Addr) (c : Nat) (w : World) (M : Heap), ExV M e A c → Mem w M → e.size ≤ n → n ≤ 40 → e.wide ≤ 1099511627776 →
    Calls Tryz.prog 67 #[.agg #[.int .i64 e.op, .string (bs e.s), .slice A e.l.length c]] w fun en w' => en = .returned (.bool e.right) ∧ Kp [] w w' := by
  induction n with
  | zero => intro e A c w M h hM hn; have := size_pos e; omega
  | succ n ih =>
    intro e A c w M h hM hn hbig hwide
    have hn1 : sizes e.l ≤ n := by rw [E.size_eq] at hn; omega
    have hll := length_sizes e.l
    have hw1 : e.s.length ≤ 1099511627776 := by rw [E.wide_eq] at hwide; omega
    have hw2 : wides e.l ≤ 1099511627776 := by rw [E.wide_eq] at hwide; omega
    have hl40 : e.l.length ≤ 40 := by omega
    have HS := Hid.mk (show e.right = (wantP e.op e.l.length && (if e.op = 0 then wordErr [e.s] == 0 else e.s.isEmpty) && e.l.all E.right) by rw [E.right_eq, fitsP _ _ _ hl40])
    have HCF := Hid.mk (fun w' hM' => ContainsFuncE_calls (K := 110) h (fun v w => by kernel_rfl) (fun x A' c' w' (hx : x ∈ e.l) h' hM' => isRight1_calls hM' (fun w'' hM'' => ih x A' c' w'' M h' hM'' (by have := size_mem hx; omega) (by omega) (by have := wide_mem hx; omega))) w' hM' (by omega))
    have hK := kids_calls e.op
    have hk0 : e.op = 0 → kidsP e.op = (0, 0, true) := fun hh => by rw [hh]; rfl
    have hS := HS.out
    unfold wantP at hS
    generalize kidsP e.op = abc at hS hK hk0
    obtain ⟨a, b, ok⟩ := abc
    dsimp only at hS hK
    have HK := Hid.mk hK
    have HS := Hid.mk hS
    have hts := bs_toList e.s
    clear hK hS ih
    cases ok with
    | false =>
      have HR := Hid.mk (show e.right = false by rw [HS.out]; simp)
      clear HS hk0
      go_enter Tryz.func67, Tryz.ntmps67
      go_wp2_with fail
      refine (HK.out _).mono ?_
      rintro en w' ⟨rfl, rfl⟩
      go_wp2_with fail
      go_ret
      exact ⟨ret_bool HR.out.symm, (Kp.refl _ _).alloc _⟩
    | true =>
      by_cases ha : (e.l.length : Int) < a
      · have HR := Hid.mk (show e.right = false by rw [HS.out, decide_eq_false (by omega : ¬ a ≤ (e.l.length : Int))]; simp)
        clear HS hk0
        go_enter Tryz.func67, Tryz.ntmps67
        go_wp2_with fail
        refine (HK.out _).mono ?_
        rintro en w' ⟨rfl, rfl⟩
        go_wp2_with fail
        go_ret
        exact ⟨ret_bool HR.out.symm, (Kp.refl _ _).alloc _⟩
      · by_cases hb : 0 ≤ b ∧ b < (e.l.length : Int)
        · obtain ⟨hb1, hb2⟩ := hb
          have HR := Hid.mk (show e.right = false by rw [HS.out, decide_eq_true hb1, decide_eq_true hb2]; simp)
          clear HS hk0
          go_enter Tryz.func67, Tryz.ntmps67
          go_wp2_with fail
          refine (HK.out _).mono ?_
          rintro en w' ⟨rfl, rfl⟩
          go_wp2_with fail
          go_ret
          exact ⟨ret_bool HR.out.symm, (Kp.refl _ _).alloc _⟩
        · have hS : e.right = ((if e.op = 0 then wordErr [e.s] == 0 else e.s.isEmpty) && e.l.all E.right) := by
            have : (decide (0 ≤ b) && decide (b < (e.l.length : Int))) = false := by rw [Bool.eq_false_iff]; simpa using hb
            rw [HS.out, this, decide_eq_true (by omega : a ≤ (e.l.length : Int))]; simp
          clear HS
          have hbb : b < 0 ∨ (0 ≤ b ∧ ¬ b < (e.l.length : Int)) := by omega
          clear hb
          by_cases h0 : e.op = 0
          · have hab := hk0 h0
            injection hab with e1 e2
            injection e2 with e2 e3
            subst e1 e2
            have hl0 : e.l.length = 0 := by omega
            have hC := HCF.out
            rw [if_pos h0] at hS
            clear hk0 ha hbb hll hl40 HCF
            rw [h0] at HK ⊢
            rw [hl0] at hC ⊢
            clear h0 hl0
            have hW := fun w' hM' hr => ValidateWord_calls [e.s] (some ⟨w.heap.size + 1, 0, none⟩) 1 (M.put (w.heap.size + 1) (.cells #[.string (bs e.s)] 9)) w' hM' hr (fun s hs => by simp at hs; rw [hs]; exact hw1) (by simp) (by simp)
            generalize wordErr [e.s] = k at hS hW
            have hrow := row_at' w (.cells #[.int .i64 0, .string (bs e.s), .slice A 0 c] 24) (.cells #[.string (bs e.s)] 9)
            have hM2 := (hM.alloc (.cells #[.int .i64 0, .string (bs e.s), .slice A 0 c] 24)).alloc (.cells #[.string (bs e.s)] 9)
            have hM1 := hM2.put hrow
            have HM := Hid.mk (hW _ hM1 (one_cell hrow))
            have HC := Hid.mk (hC _ hM2)
            clear hC hW hM1 hM2 hrow
            by_cases hk : k = 0
            · subst hk
              have HR := Hid.mk (show e.right = e.l.all E.right by rw [hS]; rfl)
              clear hS
              go_enter Tryz.func67, Tryz.ntmps67
              go_wp2_with fail
              refine (HK.out _).mono ?_
              rintro en w' ⟨rfl, rfl⟩
              go_wp2_with fail
              refine HM.out.mono ?_
              rintro en w' ⟨rfl, rfl⟩
              go_wp2_with fail
              refine HC.out.mono ?_
              rintro en w' ⟨rfl, hk2⟩
              go_wp2_with fail
              go_ret
              exact ⟨ret_bool (by rw [HR.out, ← all_any_not]), (((Kp.refl _ _).alloc _).alloc _).trans hk2⟩
            · have hk' : (k == 0) = false := by simpa using hk
              have HR := Hid.mk (show e.right = false by rw [hS, hk']; rfl)
              clear hS
              go_enter Tryz.func67, Tryz.ntmps67
              go_wp2_with fail
              refine (HK.out _).mono ?_
              rintro en w' ⟨rfl, rfl⟩
              go_wp2_with fail
              refine HM.out.mono ?_
              rintro en w' ⟨rfl, rfl⟩
              go_wp2_with fail
              go_ret
              exact ⟨ret_bool HR.out.symm, ((Kp.refl _ _).alloc _).alloc _⟩
          · rw [if_neg h0] at hS
            have h0' : (e.op == 0) = false := by simpa using h0
            have h0'' : (e.op != 0) = true := by simpa using h0
            clear hk0
            by_cases hs : e.s.isEmpty = true
            · have HR := Hid.mk (show e.right = e.l.all E.right by rw [hS, hs]; simp)
              have HC := Hid.mk (HCF.out _ (hM.alloc (.cells #[.int .i64 e.op, .string (bs e.s), .slice A e.l.length c] 24)))
              clear hS
              rcases hbb with hb1 | ⟨hb1, hb2⟩
              all_goals
                go_enter Tryz.func67, Tryz.ntmps67
                go_wp2_with fail
                refine (HK.out _).mono ?_
                rintro en w' ⟨rfl, rfl⟩
                go_wp2_with fail
                refine HC.out.mono ?_
                rintro en w' ⟨rfl, hk2⟩
                go_wp2_with fail
                go_ret
                exact ⟨ret_bool (by rw [HR.out, ← all_any_not]), ((Kp.refl _ _).alloc _).trans hk2⟩
            · replace hs := Bool.eq_false_iff.2 hs
              have HR := Hid.mk (show e.right = false by rw [hS, hs]; simp)
              clear hS
              rcases hbb with hb1 | ⟨hb1, hb2⟩
              all_goals
                go_enter Tryz.func67, Tryz.ntmps67
                go_wp2_with fail
                refine (HK.out _).mono ?_
                rintro en w' ⟨rfl, rfl⟩
                go_wp2_with fail
                go_ret
                exact ⟨ret_bool HR.out.symm, (Kp.refl _ _).alloc _⟩
end Go.Proofs.YtgdnhlckodhhgaaGreatDoor

/-
  What is wrong with an expression, by the program and by the reference.
-/
namespace Go.Proofs.YtgdnhlckodhhgaaGreatDoor
open Go.RowKit
set_option linter.unusedVariables false
set_option linter.unusedSimpArgs false
/-- What is wrong with an expression. -/
def verdict (e : E) : Int := if 40 < e.size ∨ 12 < e.nest then 3 else if e.right = true then 0 else 1
theorem verdict_large {e : E} (h : 40 < e.size) : verdict e = 3 := by rw [verdict, if_pos (.inl h)]
theorem verdict_deep {e : E} (h : 12 < e.nest) : verdict e = 3 := by rw [verdict, if_pos (.inr h)]
theorem verdict_ok {e : E} (h : ¬ 40 < e.size) (k : ¬ 12 < e.nest) (r : e.right = true) : verdict e = 0 := by rw [verdict, if_neg (fun x => x.elim h k), if_pos r]
theorem verdict_no {e : E} (h : ¬ 40 < e.size) (k : ¬ 12 < e.nest) (r : e.right = false) : verdict e = 1 := by rw [verdict, if_neg (fun x => x.elim h k), if_neg (by rw [r]; simp)]
theorem nest_pos (e : E) : 0 < e.nest := by rw [E.nest_eq]; omega
set_option maxRecDepth 100000 in
set_option maxHeartbeats 1000000 in
theorem Validate_calls (e : E) (A : Option Addr) (c : Nat) (w : World) (M : Heap) (h : ExV M e A c) (hM : Mem w M) (hn : e.size ≤ 1099511627776) (hw : e.wide ≤ 1099511627776) :
    Calls Tryz.prog 31 #[.agg #[.int .i64 e.op, .string (bs e.s), .slice A e.l.length c]] w fun en w' => en = .returned (.int .i64 (verdict e)) ∧ Kp [] w w' := by
  have H := Hid.mk h
  have hns := nest_size e
  by_cases h40 : 40 < e.size
  · have HR := Hid.mk (verdict_large h40)
    clear h hw
    go_enter Tryz.func31, Tryz.ntmps31
    go_wp2_with fail
    refine (Size_calls _ e A c _ M H.out (hM.alloc _) (Nat.le_refl _) hn).mono ?_
    rintro en w1 ⟨rfl, hk1⟩
    go_wp2_with fail
    go_ret
    exact ⟨ret_int HR.out.symm, ((Kp.refl _ _).alloc _).trans hk1⟩
  · have hb := Box.new hM #[.int .i64 e.op, .string (bs e.s), .slice A e.l.length c] 24
    have hM1 := hM.alloc (.cells #[.int .i64 e.op, .string (bs e.s), .slice A e.l.length c] 24)
    have hK1 := (Kp.refl [] w).alloc (.cells #[.int .i64 e.op, .string (bs e.s), .slice A e.l.length c] 24)
    have HS := Hid.mk (And.intro hb (And.intro hM1 hK1))
    clear hb hM1 hK1 h
    by_cases h12 : 12 < e.nest
    · have HR := Hid.mk (verdict_deep h12)
      go_enter Tryz.func31, Tryz.ntmps31
      go_wp2_with fail
      refine (Size_calls _ e A c _ M H.out (hM.alloc _) (Nat.le_refl _) hn).mono ?_
      rintro en w1 ⟨rfl, hk1⟩
      obtain ⟨hb, hM1, hK1⟩ := HS.out
      obtain ⟨⟨q0, q1, q2⟩, _, _, _⟩ := (hb.same hk1 (by simp)).three
      have HT := Hid.mk (And.intro (hb.same hk1 (by simp)) (And.intro (hM1.kp hk1 (by simp)) (hK1.trans hk1)))
      clear hb hM1 hK1 hk1
      go_wp2_with fail
      refine (nest_calls _ e A c _ M H.out HT.out.2.1 (Nat.le_refl _) hn).mono ?_
      rintro en w2 ⟨rfl, hk2⟩
      go_wp2_with fail
      go_ret
      exact ⟨ret_int HR.out.symm, HT.out.2.2.trans hk2⟩
    · cases hr : e.right
      · have HR := Hid.mk (verdict_no h40 h12 hr)
        have HRR := Hid.mk hr
        clear hr
        go_enter Tryz.func31, Tryz.ntmps31
        go_wp2_with fail
        refine (Size_calls _ e A c _ M H.out (hM.alloc _) (Nat.le_refl _) hn).mono ?_
        rintro en w1 ⟨rfl, hk1⟩
        obtain ⟨hb, hM1, hK1⟩ := HS.out
        have hb1 := hb.same hk1 (by simp)
        obtain ⟨⟨q0, q1, q2⟩, _, _, _⟩ := hb1.three
        have HT := Hid.mk (And.intro (hb.same hk1 (by simp)) (And.intro (hM1.kp hk1 (by simp)) (hK1.trans hk1)))
        clear hb hM1 hK1 hk1 hb1
        go_wp2_with fail
        refine (nest_calls _ e A c _ M H.out HT.out.2.1 (Nat.le_refl _) hn).mono ?_
        rintro en w2 ⟨rfl, hk2⟩
        obtain ⟨hb, hM1, hK1⟩ := HT.out
        clear q0 q1 q2
        have hb1 := hb.same hk2 (by simp)
        obtain ⟨⟨q0, q1, q2⟩, _, _, _⟩ := hb1.three
        have HU := Hid.mk (And.intro (hM1.kp hk2 (by simp)) (hK1.trans hk2))
        clear hb hM1 hK1 hk2 hb1
        go_wp2_with fail
        refine (isRight_calls _ e A c _ M H.out HU.out.1 (Nat.le_refl _) (by omega) hw).mono ?_
        rintro en w3 ⟨rfl, hk3⟩
        have hr := HRR.out
        go_wp2_with fail
        go_ret
        exact ⟨ret_int HR.out.symm, HU.out.2.trans hk3⟩
      · have HR := Hid.mk (verdict_ok h40 h12 hr)
        have HRR := Hid.mk hr
        clear hr
        go_enter Tryz.func31, Tryz.ntmps31
        go_wp2_with fail
        refine (Size_calls _ e A c _ M H.out (hM.alloc _) (Nat.le_refl _) hn).mono ?_
        rintro en w1 ⟨rfl, hk1⟩
        obtain ⟨hb, hM1, hK1⟩ := HS.out
        have hb1 := hb.same hk1 (by simp)
        obtain ⟨⟨q0, q1, q2⟩, _, _, _⟩ := hb1.three
        have HT := Hid.mk (And.intro (hb.same hk1 (by simp)) (And.intro (hM1.kp hk1 (by simp)) (hK1.trans hk1)))
        clear hb hM1 hK1 hk1 hb1
        go_wp2_with fail
        refine (nest_calls _ e A c _ M H.out HT.out.2.1 (Nat.le_refl _) hn).mono ?_
        rintro en w2 ⟨rfl, hk2⟩
        obtain ⟨hb, hM1, hK1⟩ := HT.out
        clear q0 q1 q2
        have hb1 := hb.same hk2 (by simp)
        obtain ⟨⟨q0, q1, q2⟩, _, _, _⟩ := hb1.three
        have HU := Hid.mk (And.intro (hM1.kp hk2 (by simp)) (hK1.trans hk2))
        clear hb hM1 hK1 hk2 hb1
        go_wp2_with fail
        refine (isRight_calls _ e A c _ M H.out HU.out.1 (Nat.le_refl _) (by omega) hw).mono ?_
        rintro en w3 ⟨rfl, hk3⟩
        have hr := HRR.out
        go_wp2_with fail
        go_ret
        exact ⟨ret_int HR.out.symm, HU.out.2.trans hk3⟩
set_option maxRecDepth 100000 in
set_option maxHeartbeats 1000000 in
theorem rValidate_calls (e : E) (A : Option Addr) (c : Nat) (w : World) (M : Heap) (h : ExV M e A c) (hM : Mem w M) (hn : e.size ≤ 1099511627776) (hw : e.wide ≤ 1099511627776) :
    Calls Tryz.prog 13 #[.agg #[.int .i64 e.op, .string (bs e.s), .slice A e.l.length c]] w fun en w' => en = .returned (.int .i64 (verdict e)) ∧ Kp [] w w' := by
  have H := Hid.mk h
  have hns := nest_size e
  by_cases h40 : 40 < e.size
  · have HR := Hid.mk (verdict_large h40)
    clear h hw
    go_enter Tryz.func13, Tryz.ntmps13
    go_wp2_with fail
    refine (rSize_calls _ e A c _ M H.out (hM.alloc _) (Nat.le_refl _) hn).mono ?_
    rintro en w1 ⟨rfl, hk1⟩
    go_wp2_with fail
    go_ret
    exact ⟨ret_int HR.out.symm, ((Kp.refl _ _).alloc _).trans hk1⟩
  · have hb := Box.new hM #[.int .i64 e.op, .string (bs e.s), .slice A e.l.length c] 24
    have hM1 := hM.alloc (.cells #[.int .i64 e.op, .string (bs e.s), .slice A e.l.length c] 24)
    have hK1 := (Kp.refl [] w).alloc (.cells #[.int .i64 e.op, .string (bs e.s), .slice A e.l.length c] 24)
    have HS := Hid.mk (And.intro hb (And.intro hM1 hK1))
    clear hb hM1 hK1 h
    by_cases h12 : 12 < e.nest
    · have HR := Hid.mk (verdict_deep h12)
      go_enter Tryz.func13, Tryz.ntmps13
      go_wp2_with fail
      refine (rSize_calls _ e A c _ M H.out (hM.alloc _) (Nat.le_refl _) hn).mono ?_
      rintro en w1 ⟨rfl, hk1⟩
      obtain ⟨hb, hM1, hK1⟩ := HS.out
      obtain ⟨⟨q0, q1, q2⟩, _, _, _⟩ := (hb.same hk1 (by simp)).three
      have HT := Hid.mk (And.intro (hb.same hk1 (by simp)) (And.intro (hM1.kp hk1 (by simp)) (hK1.trans hk1)))
      clear hb hM1 hK1 hk1
      go_wp2_with fail
      refine (rdeep_calls _ e A c _ M H.out HT.out.2.1 (Nat.le_refl _) hn).mono ?_
      rintro en w2 ⟨rfl, hk2⟩
      go_wp2_with fail
      go_ret
      exact ⟨ret_int HR.out.symm, HT.out.2.2.trans hk2⟩
    · cases hr : e.right
      · have HR := Hid.mk (verdict_no h40 h12 hr)
        have HRR := Hid.mk hr
        clear hr
        go_enter Tryz.func13, Tryz.ntmps13
        go_wp2_with fail
        refine (rSize_calls _ e A c _ M H.out (hM.alloc _) (Nat.le_refl _) hn).mono ?_
        rintro en w1 ⟨rfl, hk1⟩
        obtain ⟨hb, hM1, hK1⟩ := HS.out
        have hb1 := hb.same hk1 (by simp)
        obtain ⟨⟨q0, q1, q2⟩, _, _, _⟩ := hb1.three
        have HT := Hid.mk (And.intro (hb.same hk1 (by simp)) (And.intro (hM1.kp hk1 (by simp)) (hK1.trans hk1)))
        clear hb hM1 hK1 hk1 hb1
        go_wp2_with fail
        refine (rdeep_calls _ e A c _ M H.out HT.out.2.1 (Nat.le_refl _) hn).mono ?_
        rintro en w2 ⟨rfl, hk2⟩
        obtain ⟨hb, hM1, hK1⟩ := HT.out
        clear q0 q1 q2
        have hb1 := hb.same hk2 (by simp)
        obtain ⟨⟨q0, q1, q2⟩, _, _, _⟩ := hb1.three
        have HU := Hid.mk (And.intro (hM1.kp hk2 (by simp)) (hK1.trans hk2))
        clear hb hM1 hK1 hk2 hb1
        go_wp2_with fail
        refine (risRight_calls _ e A c _ M H.out HU.out.1 (Nat.le_refl _) (by omega) hw).mono ?_
        rintro en w3 ⟨rfl, hk3⟩
        have hr := HRR.out
        go_wp2_with fail
        go_ret
        exact ⟨ret_int HR.out.symm, HU.out.2.trans hk3⟩
      · have HR := Hid.mk (verdict_ok h40 h12 hr)
        have HRR := Hid.mk hr
        clear hr
        go_enter Tryz.func13, Tryz.ntmps13
        go_wp2_with fail
        refine (rSize_calls _ e A c _ M H.out (hM.alloc _) (Nat.le_refl _) hn).mono ?_
        rintro en w1 ⟨rfl, hk1⟩
        obtain ⟨hb, hM1, hK1⟩ := HS.out
        have hb1 := hb.same hk1 (by simp)
        obtain ⟨⟨q0, q1, q2⟩, _, _, _⟩ := hb1.three
        have HT := Hid.mk (And.intro (hb.same hk1 (by simp)) (And.intro (hM1.kp hk1 (by simp)) (hK1.trans hk1)))
        clear hb hM1 hK1 hk1 hb1
        go_wp2_with fail
        refine (rdeep_calls _ e A c _ M H.out HT.out.2.1 (Nat.le_refl _) hn).mono ?_
        rintro en w2 ⟨rfl, hk2⟩
        obtain ⟨hb, hM1, hK1⟩ := HT.out
        clear q0 q1 q2
        have hb1 := hb.same hk2 (by simp)
        obtain ⟨⟨q0, q1, q2⟩, _, _, _⟩ := hb1.three
        have HU := Hid.mk (And.intro (hM1.kp hk2 (by simp)) (hK1.trans hk2))
        clear hb hM1 hK1 hk2 hb1
        go_wp2_with fail
        refine (risRight_calls _ e A c _ M H.out HU.out.1 (Nat.le_refl _) (by omega) hw).mono ?_
        rintro en w3 ⟨rfl, hk3⟩
        have hr := HRR.out
        go_wp2_with fail
        go_ret
        exact ⟨ret_int HR.out.symm, HU.out.2.trans hk3⟩
end Go.Proofs.YtgdnhlckodhhgaaGreatDoor

/-
  Plain Lean: how large, and how wide, what a text is read as.
-/
namespace Go.Proofs.YtgdnhlckodhhgaaGreatDoor
theorem bx_ok {α β : Type} {x : Option (Ex α)} {f : α → Option (Ex β)} {y : β} (h : bx x f = some (.ok y)) : ∃ a, x = some (.ok a) ∧ f a = some (.ok y) := by
  rcases bx_some h with ⟨q, _, h2⟩ | h
  · cases h2
  · exact h
theorem lf_ok {α β : Type} {x : Ex α} {f : α → Option (Ex β)} {y : β} (h : lf x f = some (.ok y)) : ∃ a, x = .ok a ∧ f a = some (.ok y) := by
  rcases lf_some h with ⟨q, _, h2⟩ | h
  · cases h2
  · exact h
theorem takeT_true {t r r1 : Bs} (ht : t ≠ []) (h : takeT t r = .ok (true, r1)) : r1.length + 1 ≤ r.length := by
  rcases takeT_ok h with ⟨_, h2, rfl⟩ | ⟨h1, _⟩
  · have e1 := (tk_len h2).2.1
    have e2 := (sk_suffix r).length_le
    have e3 := List.length_pos_iff.2 ht
    simp; omega
  · cases h1
theorem token_drop {t r r1 : Bs} (ht : t ≠ []) (h : token r = .ok (t, r1)) : r1.length ≤ r.length ∧ t.length ≤ r1.length ∧ 1 ≤ t.length := by
  obtain ⟨rfl, h2⟩ := token_ok h
  exact ⟨(sk_suffix r).length_le, (tk_len h2).2.1, List.length_pos_iff.2 ht⟩
def accsz (l : List E) : Nat := if l.length = 1 then sizes l else 1 + sizes l
theorem accsz_add (l : List E) (x : E) : accsz (l ++ [x]) ≤ accsz l + x.size + 1 := by
  have h : sizes (l ++ [x]) = sizes l + x.size := by rw [sizes_append]; simp [sizes]
  unfold accsz
  rw [h]
  split <;> split <;> rename_i h1 h2 <;> simp at h1 <;> omega
theorem one_size (op : Int) (l : List E) : (one op l).size = accsz l := by
  match l with
  | [] => rfl
  | [a] => simp [one, accsz, sizes]
  | a :: b :: l => simp [one, accsz, E.size]
theorem wides_append (l m : List E) : wides (l ++ m) = max (wides l) (wides m) := by
  induction l with
  | nil => simp [wides]
  | cons a l ih => simp [wides, ih, Nat.max_assoc]
theorem one_wide (op : Int) (l : List E) : (one op l).wide = wides l := by
  match l with
  | [] => rfl
  | [a] => simp [one, wides]
  | a :: b :: l => simp [one, E.wide]
theorem leaf_small {t : Bs} {e : E} (h : leaf t = some e) : e.size = 1 ∧ e.wide ≤ t.length := by
  unfold leaf noneE at h
  repeat' (split at h)
  all_goals first
    | (cases h; done)
    | (injection h with h; subst h; refine ⟨by simp [E.size, sizes], ?_⟩; simp [E.wide, wides] <;> omega)
    | (injection h with h; subst h; exact ⟨by simp [E.size, sizes], by simp [E.wide, wides]⟩)
def Task.w0 : Task → Nat | .lv _ _ => 0 | .left _ a _ => a.size | .all _ acc _ => accsz acc | .chain acc _ => accsz acc | .behind a _ => a.size
def Task.gap : Task → Nat | .lv _ _ => 2 | _ => 0
def Task.wd : Task → Nat | .lv _ _ => 0 | .left _ a _ => a.wide | .all _ acc _ => wides acc | .chain acc _ => wides acc | .behind a _ => a.wide
/-- A task's answer is not large. -/
def Fine (t : Task) (a : E) (r' : Bs) : Prop := a.size + 4 * r'.length + t.gap ≤ t.w0 + 4 * t.r.length ∧ ∀ B, t.wd ≤ B → t.r.length ≤ B → a.wide ≤ B
theorem sgn_ne (n : Nat) : sgn n ≠ [] := by unfold sgn; split <;> simp
theorem wide2 {op : Int} {a b : E} {B : Nat} (ha : a.wide ≤ B) (hb : b.wide ≤ B) : (E.mk op [] [a, b]).wide ≤ B := by simp [E.wide, wides]; omega
theorem wide1 {op : Int} {a : E} {B : Nat} (ha : a.wide ≤ B) : (E.mk op [] [a]).wide ≤ B := by simp [E.wide, wides]; omega
theorem G_fine (k : Nat) : ∀ t a r', G k t = some (.ok (a, r')) → Fine t a r' := by
  induction k with
  | zero => intro t a r' h; simp [G] at h
  | succ k ih =>
    have lv : ∀ {n r a r1}, G k (.lv n r) = some (.ok (a, r1)) → a.size + 4 * r1.length + 2 ≤ 4 * r.length ∧ ∀ B, r.length ≤ B → a.wide ≤ B := fun h => by
      have := ih _ _ _ h
      simp only [Fine, Task.gap, Task.w0, Task.r, Task.wd] at this
      exact ⟨by omega, fun B hB => this.2 B (Nat.zero_le _) hB⟩
    intro t a r' h
    match t with
    | .lv 0 r =>
      simp only [G] at h
      obtain ⟨⟨x, r1⟩, h1, h⟩ := bx_ok h
      dsimp only at h
      obtain ⟨l1, w1⟩ := lv h1
      obtain ⟨⟨b, r2⟩, h2, h⟩ := lf_ok h
      dsimp only at h
      have s2 := (takeT_len h2).length_le
      split at h
      · injection h with h; injection h with h; injection h with e1 e2; subst e1; subst e2
        exact ⟨by simp only [Task.gap, Task.w0, Task.r]; omega, fun B _ hB => w1 B hB⟩
      · rename_i hb
        have hb' : b = true := by simpa using hb
        subst hb'
        have s2' := takeT_true (by simp) h2
        obtain ⟨⟨t, r3⟩, h3, h⟩ := lf_ok h
        dsimp only at h
        have s3 := (token_len h3).length_le
        obtain ⟨⟨y, r4⟩, h4, h⟩ := bx_ok h
        dsimp only at h
        have l4 : y.size + 4 * r4.length ≤ 1 + 4 * r3.length ∧ ∀ B, r3.length ≤ B → y.wide ≤ B := by
          split at h4
          · injection h4 with h4; injection h4 with h4; injection h4 with e1 e2; subst e1; subst e2
            exact ⟨by simp [noneE, E.size, sizes], fun B _ => by simp [noneE, E.wide, wides]⟩
          · have := lv h4; exact ⟨by omega, this.2⟩
        obtain ⟨⟨b5, r5⟩, h5, h⟩ := lf_ok h
        dsimp only at h
        split at h
        · injection h with h; cases h
        rename_i hb5
        have hb5' : b5 = true := by simpa using hb5
        subst hb5'
        have s5 := takeT_true (by simp) h5
        obtain ⟨⟨t6, r6⟩, h6, h⟩ := lf_ok h
        dsimp only at h
        have s6 := (token_len h6).length_le
        obtain ⟨⟨z, r7⟩, h7, h⟩ := bx_ok h
        dsimp only at h
        have l7 : z.size + 4 * r7.length ≤ 1 + 4 * r6.length ∧ ∀ B, r6.length ≤ B → z.wide ≤ B := by
          split at h7
          · injection h7 with h7; injection h7 with h7; injection h7 with e1 e2; subst e1; subst e2
            exact ⟨by simp [noneE, E.size, sizes], fun B _ => by simp [noneE, E.wide, wides]⟩
          · have := lv h7; exact ⟨by omega, this.2⟩
        injection h with h; injection h with h; injection h with e1 e2; subst e1; subst e2
        refine ⟨by simp only [Task.gap, Task.w0, Task.r, E.size, sizes]; omega, fun B _ hB => ?_⟩
        simp only [Task.r] at hB
        have a1 := w1 B hB
        have a2 := l4.2 B (by omega)
        have a3 := l7.2 B (by omega)
        simp [E.wide, wides]; omega
    | .lv 1 r | .lv 2 r | .lv 3 r | .lv 4 r | .lv 5 r | .lv 6 r =>
      simp only [G] at h
      obtain ⟨⟨x, r1⟩, h1, h⟩ := bx_ok h
      dsimp only at h
      obtain ⟨l1, w1⟩ := lv h1
      have hh := ih _ _ _ h
      simp only [Fine, Task.gap, Task.w0, Task.r, Task.wd, accsz, wides, sizes, List.length_cons, List.length_nil, if_true, Nat.zero_add, Nat.add_zero, Nat.max_zero] at hh ⊢
      exact ⟨by omega, fun B _ hB => hh.2 B (w1 B hB) (by omega)⟩
    | .lv 7 r =>
      simp only [G] at h
      obtain ⟨⟨t, r1⟩, h2, h⟩ := lf_ok h
      dsimp only at h
      have s1 := (token_len h2).length_le
      split at h
      · rename_i ht
        have d := token_drop (by rw [ht]; simp) h2
        obtain ⟨⟨x, r2⟩, h1, h⟩ := bx_ok h
        dsimp only at h
        have l1 := lv h1
        simp only [List.length_drop] at l1
        injection h with h; injection h with h; injection h with e1 e2; subst e1; subst e2
        exact ⟨by simp only [Task.gap, Task.w0, Task.r, E.size, sizes]; omega, fun B _ hB => wide1 (l1.2 B (by simp only [Task.r] at hB; omega))⟩
      · split at h
        · rename_i ht
          have d := token_drop (by rw [ht]; simp) h2
          obtain ⟨⟨x, r2⟩, h1, h⟩ := bx_ok h
          dsimp only at h
          have l1 := lv h1
          simp only [List.length_drop] at l1
          injection h with h; injection h with h; injection h with e1 e2; subst e1; subst e2
          exact ⟨by simp only [Task.gap, Task.w0, Task.r, E.size, sizes]; omega, fun B _ hB => wide1 (l1.2 B (by simp only [Task.r] at hB; omega))⟩
        · obtain ⟨⟨x, r2⟩, h1, h⟩ := bx_ok h
          dsimp only at h
          obtain ⟨l1, w1⟩ := lv h1
          have hh := ih _ _ _ h
          simp only [Fine, Task.gap, Task.w0, Task.r, Task.wd] at hh ⊢
          exact ⟨by omega, fun B _ hB => hh.2 B (w1 B (by omega)) (by omega)⟩
    | .lv (n + 8) r =>
      simp only [G] at h
      obtain ⟨⟨t, r1⟩, h2, h⟩ := lf_ok h
      dsimp only at h
      split at h
      · injection h with h; cases h
      · rename_i hb
        have d := token_drop (begT_cons (by simpa using hb)) h2
        split at h
        · rename_i e he
          have hl := leaf_small he
          injection h with h; injection h with h; injection h with e1 e2; subst e1; subst e2
          exact ⟨by simp only [Task.gap, Task.w0, Task.r, List.length_drop]; omega, fun B _ hB => by simp only [Task.r] at hB; omega⟩
        · obtain ⟨⟨x, r2⟩, h1, h⟩ := bx_ok h
          dsimp only at h
          have l1 := lv h1
          simp only [List.length_drop] at l1
          obtain ⟨⟨b, r3⟩, h4, h⟩ := lf_ok h
          dsimp only at h
          have s4 := (takeT_len h4).length_le
          split at h
          · injection h with h; cases h
          · injection h with h; injection h with h; injection h with e1 e2; subst e1; subst e2
            exact ⟨by simp only [Task.gap, Task.w0, Task.r]; omega, fun B _ hB => l1.2 B (by simp only [Task.r] at hB; omega)⟩
    | .left n x r =>
      simp only [G] at h
      obtain ⟨⟨b, r1⟩, h2, h⟩ := lf_ok h
      dsimp only at h
      have s1 := (takeT_len h2).length_le
      split at h
      · injection h with h; injection h with h; injection h with e1 e2; subst e1; subst e2
        exact ⟨by simp only [Task.gap, Task.w0, Task.r]; omega, fun B hw _ => hw⟩
      · rename_i hb
        have hb' : b = true := by simpa using hb
        subst hb'
        have s2 := takeT_true (sgn_ne n) h2
        obtain ⟨⟨y, r2⟩, h1, h⟩ := bx_ok h
        dsimp only at h
        obtain ⟨l1, w1⟩ := lv h1
        have hh := ih _ _ _ h
        simp only [Fine, Task.gap, Task.w0, Task.r, Task.wd, E.size, sizes] at hh ⊢
        exact ⟨by omega, fun B hw hB => hh.2 B (wide2 hw (w1 B (by omega))) (by omega)⟩
    | .all n acc r =>
      simp only [G] at h
      obtain ⟨⟨b, r1⟩, h2, h⟩ := lf_ok h
      dsimp only at h
      have s1 := (takeT_len h2).length_le
      split at h
      · injection h with h; injection h with h; injection h with e1 e2; subst e1; subst e2
        exact ⟨by simp only [Task.gap, Task.w0, Task.r, one_size]; omega, fun B hw _ => by rw [one_wide]; exact hw⟩
      · rename_i hb
        have hb' : b = true := by simpa using hb
        subst hb'
        have s2 := takeT_true (sgn_ne n) h2
        obtain ⟨⟨y, r2⟩, h1, h⟩ := bx_ok h
        dsimp only at h
        obtain ⟨l1, w1⟩ := lv h1
        have hh := ih _ _ _ h
        have ha := accsz_add acc y
        simp only [Fine, Task.gap, Task.w0, Task.r, Task.wd, wides_append, wides, Nat.max_zero] at hh ⊢
        exact ⟨by omega, fun B hw hB => hh.2 B (by have := w1 B (by omega); omega) (by omega)⟩
    | .chain acc r =>
      simp only [G] at h
      obtain ⟨⟨t, r1⟩, h2, h⟩ := lf_ok h
      dsimp only at h
      have s1 := (token_len h2).length_le
      split at h
      · obtain ⟨⟨y, r2⟩, h1, h⟩ := bx_ok h
        dsimp only at h
        obtain ⟨l1, w1⟩ := lv h1
        have hh := ih _ _ _ h
        have ha := accsz_add acc y
        simp only [Fine, Task.gap, Task.w0, Task.r, Task.wd, wides_append, wides, Nat.max_zero] at hh ⊢
        exact ⟨by omega, fun B hw hB => hh.2 B (by have := w1 B (by omega); omega) (by omega)⟩
      · injection h with h; injection h with h; injection h with e1 e2; subst e1; subst e2
        exact ⟨by simp only [Task.gap, Task.w0, Task.r, one_size]; omega, fun B hw _ => by rw [one_wide]; exact hw⟩
    | .behind x r =>
      simp only [G] at h
      obtain ⟨⟨t, r1⟩, h2, h⟩ := lf_ok h
      dsimp only at h
      have s1 := (token_len h2).length_le
      split at h
      · rename_i o ho
        have d := token_drop (by rintro rfl; simp [behindOp] at ho) h2
        have hh := ih _ _ _ h
        simp only [Fine, Task.gap, Task.w0, Task.r, Task.wd, E.size, sizes, List.length_drop] at hh ⊢
        exact ⟨by omega, fun B hw hB => hh.2 B (wide1 hw) (by omega)⟩
      · injection h with h; injection h with h; injection h with e1 e2; subst e1; subst e2
        exact ⟨by simp only [Task.gap, Task.w0, Task.r]; omega, fun B hw _ => hw⟩
theorem read_small {k : Nat} {s r : Bs} {a : E} (h : G k (.lv 0 s) = some (.ok (a, r))) : a.size ≤ 4 * s.length ∧ a.wide ≤ s.length := by
  have := G_fine k _ _ _ h
  simp only [Fine, Task.gap, Task.w0, Task.r, Task.wd] at this
  exact ⟨by omega, this.2 _ (Nat.zero_le _) (Nat.le_refl _)⟩
end Go.Proofs.YtgdnhlckodhhgaaGreatDoor
