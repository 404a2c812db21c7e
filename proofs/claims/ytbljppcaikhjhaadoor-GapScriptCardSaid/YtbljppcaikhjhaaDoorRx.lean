/- The reference: Lines, LineAt, Line. No condition but those written. -/
import Derived.Test.YtbljppcaikhjhaaDoorRt
import Derived.Test.YtbljppcaikhjhaaDoorGapLi
namespace Go.Proofs.YtbljppcaikhjhaaDoor
open Go.RowKit

/-- How many line feeds stand before an index. -/
def nf (L : List Nat) (k : Nat) : Nat := (feeds 1 (L.take k)).length
theorem nf_zero (L : List Nat) : nf L 0 = 0 := by simp [nf, feeds]
theorem nf_le (L : List Nat) (k : Nat) : nf L k ≤ k := by
  unfold nf
  have := feeds_le 1 (L.take k)
  rw [List.length_take] at this
  omega
theorem nf_succ {L : List Nat} {k x : Nat} (h : L[k]? = some x) : nf L (k + 1) = nf L k + if x = 10 then 1 else 0 := by
  unfold nf
  rw [List.take_add_one, h, Option.toList_some, feeds_snoc]
  split <;> simp
theorem nf_yes {L : List Nat} {k : Nat} (h : L[k]? = some 10) : nf L (k + 1) = nf L k + 1 := by rw [nf_succ h, if_pos rfl]
theorem nf_no {L : List Nat} {k x : Nat} (h : L[k]? = some x) (hx : x ≠ 10) : nf L (k + 1) = nf L k := by rw [nf_succ h, if_neg hx, Nat.add_zero]
theorem nf_all (L : List Nat) : linesN L = nf L L.length + 1 := by unfold nf linesN; rw [List.take_length]
theorem nf_split (L : List Nat) (k : Nat) : feeds 1 L = feeds 1 (L.take k) ++ feeds (1 + (L.take k).length) (L.drop k) := by rw [← feeds_append, List.take_append_drop]
theorem nf_lines (L : List Nat) (k : Nat) : nf L k + 1 ≤ linesN L := by
  unfold nf linesN
  rw [nf_split L k, List.length_append]
  omega
theorem nf_lineOf {L : List Nat} {k : Nat} (h : k ≤ L.length) : lineOf L (k + 1) = nf L k + 1 := by
  have h1 := feeds_count (L.take k) (L.drop k)
  rw [List.take_append_drop, List.length_take, Nat.min_eq_left h] at h1
  unfold lineOf nf
  rw [h1]
theorem nf_getD {L : List Nat} {k : Nat} (h : L[k]? = some 10) (d : Nat) : (feeds 1 L).getD (nf L k) d = k + 1 := by
  obtain ⟨hk, e⟩ := List.getElem?_eq_some_iff.1 h
  have hd : L.drop k = 10 :: L.drop (k + 1) := by rw [List.drop_eq_getElem_cons hk, e]
  have hs := nf_split L k
  rw [hd, List.length_take, Nat.min_eq_left (Nat.le_of_lt hk)] at hs
  unfold nf
  rw [hs, List.getD, List.getElem?_append_right (Nat.le_refl _), Nat.sub_self]
  unfold feeds
  rw [if_pos rfl]
  simp
  omega
theorem nf_lineZ {L : List Nat} {k : Nat} (h : L[k]? = some 10) : lineZ L (nf L k + 1) = k + 1 := by
  unfold lineZ
  rw [Nat.add_sub_cancel, nf_getD h]
theorem nf_lineA {L : List Nat} {k : Nat} (h : L[k]? = some 10) : lineA L (nf L k + 1 + 1) = k + 2 := by
  unfold lineA
  rw [if_neg (by omega), show nf L k + 1 + 1 - 2 = nf L k by omega, nf_getD h]
section
variable {w : World} {rb n c : Nat} {A : Option Addr} {L : List Nat}
set_option maxRecDepth 100000 in
set_option maxHeartbeats 4000000 in
theorem rlines_any (h : RtIn w rb A n c L) : Calls Tryd.prog 55 #[.pointer (some ⟨rb, 0, none⟩)] w fun e w' => e = .returned (.int .i64 (linesN L : Int)) ∧ w = w' := by
  have hl := h.len
  have hle := h.le
  have c0 := h.c0
  have H := hide h
  have HN := hide (show linesN L = nf L n + 1 by rw [nf_all, hl])
  clear h hl
  go_enter Tryd.func55, Tryd.ntmps55
  go_wp2
  go_loop [3, 4] (fun a t => ∃ k m : Nat, t = .int .i64 (k : Int) ∧ k ≤ n ∧ m = nf L k ∧ m ≤ k ∧ a = .int .i64 ((m : Int) + 1)) (fun _ t => n - (intOf t).toNat)
  case atStart => exact ⟨0, 0, rfl, Nat.zero_le _, (nf_zero L).symm, Nat.le_refl _, rfl⟩
  case round =>
    obtain ⟨k, m, rfl, hk, hm, hmk, rfl⟩ := hrel
    have HM := hide hm
    clear hm
    by_cases hlt : k < n
    · have y1 : decide (k < n) = true := by simpa using hlt
      have y2 : decide ((k : Int) < (n : Int)) = true := decide_eq_true (by omega)
      obtain ⟨y, hy⟩ := H.out.some_ hlt
      obtain ⟨g, off, rfl, hcell⟩ := H.out.at_ hy
      have hi0 : (0 : Int) ≤ (k : Int) := by omega
      have hi1 : (k : Int) < (n : Int) := by omega
      have HLT := hide hlt
      by_cases h10 : y = 10
      · subst h10
        have HS := hide (nf_yes hy)
        clear hy hlt
        go_wp2
        go_round
        case rel => exact ⟨k + 1, m + 1, by go_num, HLT.out, by rw [HS.out, HM.out], by omega, by go_num⟩
        case measure => have := HLT.out; simp [intOf]; omega
      · have z1 : ((y : Int) == 10) = false := by simp; omega
        have z2 : (y == 10) = false := by simpa using h10
        have HS := hide (nf_no hy h10)
        clear hy hlt h10
        go_wp2
        go_round
        case rel => exact ⟨k + 1, m, by go_num, HLT.out, by rw [HS.out, HM.out], by omega, rfl⟩
        case measure => have := HLT.out; simp [intOf]; omega
    · have y1 : decide (k < n) = false := by simpa using hlt
      have y2 : decide ((k : Int) < (n : Int)) = false := decide_eq_false (by omega)
      have HKN := hide (show k = n by omega)
      clear hlt
      go_wp2
      go_ret
      exact ⟨by rw [HN.out, ← HKN.out, ← HM.out]; go_num, rfl⟩
set_option maxRecDepth 100000 in
set_option maxHeartbeats 4000000 in
theorem rlineat_any (h : RtIn w rb A n c L) (p : Int) : Calls Tryd.prog 52 #[.pointer (some ⟨rb, 0, none⟩), .int .i64 p] w fun e w' => e = .returned (if 1 ≤ p ∧ p ≤ (L.length : Int) + 1 then .tuple #[.int .i64 (lineOf L p.toNat : Int), .bool true] else .tuple #[.int .i64 0, .bool false]) ∧ w = w' := by
  have hl := h.len
  have hle := h.le
  have c0 := h.c0
  have H := hide h
  rw [hl]
  have hw : IntKind.i64.wrap ((n : Int) + 1) = (n : Int) + 1 := IntWalk.i64_in _ (by omega)
  by_cases h1 : p < 1
  · have z1 : decide (p < 1) = true := by simpa using h1
    rw [if_neg (by omega)]
    clear h hl h1
    go_enter Tryd.func52, Tryd.ntmps52
    go_wp2
    go_ret2
    exact ⟨rfl, rfl⟩
  have z1 : decide (p < 1) = false := by simpa using h1
  by_cases h2 : (n : Int) + 1 < p
  · have z2 : decide ((n : Int) + 1 < p) = true := by simpa using h2
    rw [if_neg (by omega)]
    clear h hl h1 h2
    go_enter Tryd.func52, Tryd.ntmps52
    go_wp2
    go_ret2
    exact ⟨rfl, rfl⟩
  have z2 : decide ((n : Int) + 1 < p) = false := by simpa using h2
  obtain ⟨j, rfl⟩ : ∃ j : Nat, p = (j : Int) + 1 := ⟨(p - 1).toNat, by omega⟩
  have hj : j ≤ n := by omega
  have HN := hide (nf_lineOf (L := L) (k := j) (by omega))
  rw [if_pos (by omega), show ((j : Int) + 1).toNat = j + 1 by omega]
  clear h hl h1 h2
  go_enter Tryd.func52, Tryd.ntmps52
  go_wp2
  go_loop [6, 7] (fun a t => ∃ k m : Nat, t = .int .i64 ((k : Int) + 1) ∧ k ≤ j ∧ m = nf L k ∧ m ≤ k ∧ a = .int .i64 ((m : Int) + 1)) (fun _ t => j + 1 - (intOf t).toNat)
  case atStart => exact ⟨0, 0, rfl, Nat.zero_le _, (nf_zero L).symm, Nat.le_refl _, rfl⟩
  case round =>
    obtain ⟨k, m, rfl, hk, hm, hmk, rfl⟩ := hrel
    have HM := hide hm
    clear hm
    by_cases hlt : k < j
    · have y1 : decide ((k : Int) + 1 < (j : Int) + 1) = true := decide_eq_true (by omega)
      have y2 : decide ((k : Int) < (j : Int)) = true := decide_eq_true (by omega)
      have y3 : decide (k < j) = true := decide_eq_true hlt
      obtain ⟨y, hy⟩ := H.out.some_ (i := k) (by omega)
      obtain ⟨g, off, rfl, hcell⟩ := H.out.at_ hy
      have hw2 : IntKind.i64.wrap ((k : Int) + 1 - 1) = (k : Int) := by
        rw [show (k : Int) + 1 - 1 = (k : Int) by omega]
        exact IntWalk.i64_in _ (by omega)
      have hi0 : (0 : Int) ≤ (k : Int) := by omega
      have hi1 : (k : Int) < (n : Int) := by omega
      have HLT := hide hlt
      by_cases h10 : y = 10
      · subst h10
        have HS := hide (nf_yes hy)
        clear hy hlt
        go_wp2
        go_round
        case rel => exact ⟨k + 1, m + 1, by go_num, HLT.out, by rw [HS.out, HM.out], by omega, by go_num⟩
        case measure => have := HLT.out; simp [intOf]; omega
      · have z3 : ((y : Int) == 10) = false := by simp; omega
        have z4 : (y == 10) = false := by simpa using h10
        have HS := hide (nf_no hy h10)
        clear hy hlt h10
        go_wp2
        go_round
        case rel => exact ⟨k + 1, m, by go_num, HLT.out, by rw [HS.out, HM.out], by omega, rfl⟩
        case measure => have := HLT.out; simp [intOf]; omega
    · have y1 : decide ((k : Int) + 1 < (j : Int) + 1) = false := decide_eq_false (by omega)
      have y2 : decide ((k : Int) < (j : Int)) = false := decide_eq_false (by omega)
      have y3 : decide (k < j) = false := decide_eq_false hlt
      have HKN := hide (show k = j by omega)
      clear hlt
      go_wp2
      go_ret2
      exact ⟨by rw [HN.out, ← HKN.out, ← HM.out]; go_num, rfl⟩
/-- What the reference's Line knows at place p + 1. -/
structure LnSt (L : List Nat) (n : Nat) (z : Int) (p m a : Nat) : Prop where
  le : p ≤ n + 1
  in_ : p ≤ n → m = nf L p ∧ a = lineA L (m + 1)
  out_ : p = n + 1 → m = linesN L
  no : ∀ q : Nat, 1 ≤ q → q ≤ m → z ≠ (q : Int)
  ml : m ≤ 65537
  al : a ≤ 65538
theorem LnSt.start {L : List Nat} {n : Nat} {z : Int} : LnSt L n z 0 0 1 := ⟨by omega, fun _ => ⟨(nf_zero L).symm, (line_first L).symm⟩, fun h => by omega, fun q h1 h2 => by omega, by omega, by omega⟩
section
variable {z : Int} {p m a x : Nat}
theorem LnSt.skip (h : LnSt L n z p m a) (hn : L.length = n) (hx : L[p]? = some x) (h10 : x ≠ 10) : LnSt L n z (p + 1) m a := by
  have hp : p < n := by rw [← hn]; exact (List.getElem?_eq_some_iff.1 hx).1
  obtain ⟨h1, h2⟩ := h.in_ (by omega)
  exact ⟨by omega, fun _ => ⟨by rw [nf_no hx h10]; exact h1, h2⟩, fun e => by omega, h.no, h.ml, h.al⟩
theorem LnSt.next (h : LnSt L n z p m a) (hn : L.length = n) (hx : L[p]? = some 10) (hz : z ≠ (m : Int) + 1) (h6 : n ≤ 65536) : LnSt L n z (p + 1) (m + 1) (p + 2) := by
  have hp : p < n := by rw [← hn]; exact (List.getElem?_eq_some_iff.1 hx).1
  obtain ⟨h1, h2⟩ := h.in_ (by omega)
  refine ⟨by omega, fun _ => ⟨by rw [nf_yes hx, h1], by rw [h1, nf_lineA hx]⟩, fun e => by omega, fun q k1 k2 => ?_, ?_, by omega⟩
  · by_cases e : q ≤ m
    · exact h.no q k1 e
    · rw [show q = m + 1 by omega]
      exact hz
  · have := nf_le L p
    omega
theorem LnSt.last (h : LnSt L n z n m a) (hn : L.length = n) (hz : z ≠ (m : Int) + 1) (h6 : n ≤ 65536) : LnSt L n z (n + 1) (m + 1) (n + 2) := by
  obtain ⟨h1, h2⟩ := h.in_ (Nat.le_refl _)
  refine ⟨by omega, fun e => by omega, fun _ => by rw [nf_all, hn, h1], fun q k1 k2 => ?_, ?_, by omega⟩
  · by_cases e : q ≤ m
    · exact h.no q k1 e
    · rw [show q = m + 1 by omega]
      exact hz
  · have := nf_le L n
    omega
theorem LnSt.hit (h : LnSt L n ((m : Int) + 1) p m a) (hn : L.length = n) (hp : p ≤ n) (hx : p < n → L[p]? = some 10) : lineR L ((m : Int) + 1) = .tuple #[.int .i64 (a : Int), .int .i64 ((p : Int) + 1), .bool true] := by
  obtain ⟨h1, h2⟩ := h.in_ hp
  have e1 := lineR_in (L := L) (n := m + 1) (by omega) (by rw [h1]; exact nf_lines L p)
  rw [Int.natCast_add] at e1
  refine e1.trans ?_
  have e2 : lineZ L (m + 1) = p + 1 := by
    by_cases e : p < n
    · rw [h1, nf_lineZ (hx e)]
    · obtain rfl : p = n := by omega
      rw [h1, ← hn, ← nf_all, line_last]
  rw [e2, ← h2]
  rfl
theorem LnSt.none_ (h : LnSt L n z (n + 1) m a) : lineR L z = .tuple #[.int .i64 0, .int .i64 0, .bool false] := by
  refine lineR_out ?_
  have hm := h.out_ rfl
  by_cases h1 : z < 1
  · exact .inl h1
  · refine .inr (Decidable.byContradiction fun h2 => ?_)
    exact h.no z.toNat (by omega) (by omega) (by omega)
end
set_option maxRecDepth 100000 in
set_option maxHeartbeats 8000000 in
theorem rline_any (h : RtIn w rb A n c L) (z : Int) : Calls Tryd.prog 51 #[.pointer (some ⟨rb, 0, none⟩), .int .i64 z] w fun e w' => e = .returned (lineR L z) ∧ w = w' := by
  have hl := h.len
  have hle := h.le
  have c0 := h.c0
  have H := hide h
  have HL := hide hl
  have HLE := hide hle
  have hw : IntKind.i64.wrap ((n : Int) + 1) = (n : Int) + 1 := IntWalk.i64_in _ (by omega)
  clear h hl
  go_enter Tryd.func51, Tryd.ntmps51
  go_wp2
  go_loop [7, 8, 9] (fun kk fr t => ∃ p m a : Nat, t = .int .i64 ((p : Int) + 1) ∧ kk = .int .i64 ((m : Int) + 1) ∧ fr = .int .i64 (a : Int) ∧ LnSt L n z p m a) (fun _ _ t => n + 2 - (intOf t).toNat)
  case atStart => exact ⟨0, 0, 1, rfl, rfl, rfl, .start⟩
  case round =>
    obtain ⟨p, m, a, rfl, rfl, rfl, hst⟩ := hrel
    have hml := hst.ml
    have hal := hst.al
    have hpl := hst.le
    have HST := hide hst
    clear hst
    by_cases hlt : p < n
    · have y1 : decide ((p : Int) + 1 ≤ (n : Int) + 1) = true := decide_eq_true (by omega)
      have y2 : decide ((p : Int) ≤ (n : Int)) = true := decide_eq_true (by omega)
      have y3 : decide (p ≤ n) = true := decide_eq_true (by omega)
      have y4 : decide ((p : Int) + 1 ≤ (n : Int)) = true := decide_eq_true (by omega)
      have y5 : decide (p + 1 ≤ n) = true := decide_eq_true (by omega)
      obtain ⟨y, hy⟩ := H.out.some_ hlt
      obtain ⟨g, off, rfl, hcell⟩ := H.out.at_ hy
      have hw2 : IntKind.i64.wrap ((p : Int) + 1 - 1) = (p : Int) := by
        rw [show (p : Int) + 1 - 1 = (p : Int) by omega]
        exact IntWalk.i64_in _ (by omega)
      have hi0 : (0 : Int) ≤ (p : Int) := by omega
      have hi1 : (p : Int) < (n : Int) := by omega
      have HLT := hide hlt
      by_cases h10 : y = 10
      · subst h10
        have HY := hide hy
        by_cases hz : (m : Int) + 1 = z
        · have z1 : (((m : Int) + 1) == z) = true := by simpa using hz
          have HR := hide (hz ▸ (LnSt.hit (hz ▸ HST.out) HL.out (Nat.le_of_lt hlt) fun _ => hy))
          clear hy hlt hz
          go_wp2
          go_ret3
          exact ⟨by rw [HR.out]; rfl, rfl⟩
        · have z1 : (((m : Int) + 1) == z) = false := by simpa using hz
          have HR := hide (HST.out.next HL.out hy (fun e => hz e.symm) HLE.out)
          clear hy hlt hz
          go_wp2
          go_round
          case rel => exact ⟨p + 1, m + 1, p + 2, by go_num, by go_num, by go_num, HR.out⟩
          case measure => have := HLT.out; simp [intOf]; omega
      · have z3 : ((y : Int) == 10) = false := by simp; omega
        have z4 : ((y : Int) != 10) = true := by simp; omega
        have z5 : (y == 10) = false := by simpa using h10
        have HR := hide (HST.out.skip HL.out hy h10)
        clear hy hlt h10
        go_wp2
        go_round
        case rel => exact ⟨p + 1, m, a, by go_num, rfl, rfl, HR.out⟩
        case measure => have := HLT.out; simp [intOf]; omega
    · by_cases hpn : p = n
      · subst hpn
        have y1 : decide ((p : Int) + 1 ≤ (p : Int) + 1) = true := decide_eq_true (by omega)
        have y4 : decide ((p : Int) + 1 ≤ (p : Int)) = false := decide_eq_false (by omega)
        have y5 : decide (p + 1 ≤ p) = false := decide_eq_false (by omega)
        by_cases hz : (m : Int) + 1 = z
        · have z1 : (((m : Int) + 1) == z) = true := by simpa using hz
          have HR := hide (hz ▸ (LnSt.hit (hz ▸ HST.out) HL.out (Nat.le_refl _) fun e => absurd e (Nat.lt_irrefl _)))
          clear hlt hz
          go_wp2
          go_ret3
          exact ⟨by rw [HR.out]; rfl, rfl⟩
        · have z1 : (((m : Int) + 1) == z) = false := by simpa using hz
          have HR := hide (HST.out.last HL.out (fun e => hz e.symm) HLE.out)
          clear hlt hz
          go_wp2
          go_round
          case rel => exact ⟨p + 1, m + 1, p + 2, by go_num, by go_num, by go_num, HR.out⟩
          case measure => simp [intOf]; omega
      · obtain rfl : p = n + 1 := by omega
        have y1 : decide (((n + 1 : Nat) : Int) + 1 ≤ (n : Int) + 1) = false := decide_eq_false (by omega)
        have y2 : decide ((n : Int) + 1 + 1 ≤ (n : Int) + 1) = false := decide_eq_false (by omega)
        have HR := hide HST.out.none_
        clear hlt hpn
        go_wp2
        go_ret3
        exact ⟨by rw [HR.out]; rfl, rfl⟩
end
end Go.Proofs.YtbljppcaikhjhaaDoor
