/- A list without a name, in memory. No condition but those written. -/
import Derived.Test.YtgiogmbopiblmaaPpt
namespace Go.Proofs.Ytgiogmbopiblmaa
open Go.RowKit

theorem zero_pr (w : World) : (zeroValue 36).run Try.prog w = .ok (.agg #[.int .i64 0, .int .i64 0, .int .i64 0]) w := by kernel_rfl
theorem pr_one : ∀ u ∈ (Value.agg #[.int .i64 0, .int .i64 0, .int .i64 0]).cells.toList, u.oneCell' = true := by
  intro u hu
  simp [Value.cells] at hu
  rcases hu with rfl | rfl | rfl <;> rfl
theorem rows_prone (l : List Pr) : ∀ u ∈ rows prC l, u.oneCell' = true := rows_cells fun z _ => prC_one z
theorem without1_any (x : Pr) (n : Int) (nb : Nat) (w : World) (h : Blk w nb 3 #[.int .i64 n]) : Calls Try.prog 78 #[.agg #[.int .i64 x.1, .int .i64 x.2.1, .int .i64 x.2.2], .pointer (some ⟨nb, 0, none⟩)] w fun e w' => e = .returned (.bool (decide (x.1 = n))) ∧ Below w.heap.size w w' := by
  have hb := below_box w (.cells #[.int .i64 x.1, .int .i64 x.2.1, .int .i64 x.2.2] 36)
  have HB := hide hb
  have c0 := (h.below hb h.lt).cell 0
  clear h hb
  by_cases he : x.1 = n
  · have q1 : (x.1 == n) = true := by simpa using he
    rw [decide_eq_true he]
    clear he
    go_enter Try.func78, Try.ntmps78
    go_wp2
    go_ret
    exact ⟨rfl, HB.out⟩
  · have q1 : (x.1 == n) = false := by simpa using he
    rw [decide_eq_false he]
    clear he
    go_enter Try.func78, Try.ntmps78
    go_wp2
    go_ret
    exact ⟨rfl, HB.out⟩
section
variable {w : World} {v : Value} {l : List Pr} {nb : Nat} {n : Int}
theorem PrS.at_ {w : World} {A : Option Addr} {N c i : Nat} {l : List Pr} {x : Pr} (h : Rd w (.slice A N c) 3 N (rows prC l)) (hn : N = l.length) (hi : l[i]? = some x) :
    ∃ g off, A = some ⟨g, off, none⟩ ∧ w.cell? ⟨g, off + i * 3, none⟩ = some (.int .i64 x.1) ∧ w.cell? ⟨g, off + i * 3 + 1, none⟩ = some (.int .i64 x.2.1) ∧ w.cell? ⟨g, off + i * 3 + 2, none⟩ = some (.int .i64 x.2.2) := by
  have hlt := (List.getElem?_eq_some_iff.1 hi).1
  subst hn
  obtain ⟨g, off, c', hv1, hc1⟩ := Rd.fld prC_len h (by omega)
  obtain ⟨rfl, rfl⟩ : A = some ⟨g, off, none⟩ ∧ c = c' := by
    injection hv1 with e1 _ e2
    exact ⟨e1, e2⟩
  exact ⟨g, off, rfl, hc1 i _ 0 _ hi rfl, hc1 i _ 1 _ hi rfl, hc1 i _ 2 _ hi rfl⟩
/-- Where the name is first. -/
def IdxOf (l : List Pr) (n : Int) (b : Int) : Prop := (b = -1 ∧ ∀ y ∈ l, y.1 ≠ n) ∨ ∃ (k : Nat) (x : Pr), b = (k : Int) ∧ l[k]? = some x ∧ x.1 = n ∧ ∀ y ∈ l.take k, y.1 ≠ n
set_option maxRecDepth 100000 in
set_option maxHeartbeats 4000000 in
theorem idx_any (h : PrS w v l) (hb : Blk w nb 3 #[.int .i64 n]) (hl : l.length ≤ 1000000) :
    Calls Try.prog 91 #[v, .func (.func 78) #[] #[.pointer (some ⟨nb, 0, none⟩)]] w fun e w' => ∃ b : Int, e = .returned (.int .i64 b) ∧ IdxOf l n b ∧ Below w.heap.size w w' := by
  obtain ⟨A, c, rfl, hx1⟩ := Sl.form h
  clear hx1
  obtain ⟨N, hn0⟩ : ∃ N, N = l.length := ⟨_, rfl⟩
  have H := hide (Sl.rd h)
  rw [← hn0] at H ⊢
  have hl2 : (N : Int) ≤ 1000000 := by omega
  have HN0 := hide hn0
  have HB0 := hide hb
  clear h hn0 hl hb
  go_enter Try.func91, Try.ntmps91
  go_wp2
  go_loopw [8] (fun iv wr => ∃ i : Nat, iv = .int .i64 (i : Int) ∧ i ≤ N ∧ (∀ y ∈ l.take i, y.1 ≠ n) ∧ Below w.heap.size w wr) (fun iv _ => N - (intOf iv).toNat)
  case atStart => exact ⟨0, rfl, Nat.zero_le _, by simp, Below.refl _ _⟩
  case round =>
    obtain ⟨i, rfl, hin, ha, hb⟩ := hrel
    have HA := hide ha
    have HI := hide hin
    have HB := hide hb
    by_cases hij : i < N
    · have z1 : decide ((i : Int) < (N : Int)) = true := by simp; omega
      have z2 : (i : Int) < (N : Int) := by omega
      have z3 : decide (i < N) = true := by simpa using hij
      obtain ⟨x, hx⟩ : ∃ x, l[i]? = some x := ⟨_, List.getElem?_eq_getElem (by rw [← HN0.out]; omega)⟩
      obtain ⟨g, off, rfl, c0, c1, c2⟩ := PrS.at_ (H.out.belowN hb) HN0.out hx
      have HX := hide hx
      have HLT := hide hij
      have HC := hide (without1_any x n nb wr (HB0.out.below hb HB0.out.lt))
      clear hin ha hb hij hx
      by_cases he : x.1 = n
      · rw [decide_eq_true he] at HC
        have HE := hide he
        clear he
        go_wp2_with (go_at_call 78; (with_reducible refine Calls.mono HC.out ?_); rintro r w2 ⟨rfl, hb2⟩; have HB2 := hide (HB.out.trans (hb2.mono HB.out.size)); clear hb2)
        go_ret
        exact ⟨_, rfl, .inr ⟨i, x, rfl, HX.out, HE.out, HA.out⟩, HB2.out⟩
      · rw [decide_eq_false he] at HC
        have HE := hide he
        clear he
        go_wp2_with (go_at_call 78; (with_reducible refine Calls.mono HC.out ?_); rintro r w2 ⟨rfl, hb2⟩; have HB2 := hide (HB.out.trans (hb2.mono HB.out.size)); clear hb2)
        go_roundw
        case rel => exact ⟨i + 1, by go_num, HLT.out, fun y hy => by
          rw [List.take_add_one, HX.out] at hy
          rcases List.mem_append.1 hy with hy | hy
          · exact HA.out y hy
          · have : y = x := by simpa using hy
            exact this ▸ HE.out, HB2.out⟩
        case measure => have := HLT.out; simp [intOf]; omega
    · obtain rfl : i = N := by omega
      have z1 : decide ((i : Int) < (i : Int)) = false := by simp
      have HG := hide (show IdxOf l n (-1) from .inl ⟨rfl, by
        have e := HA.out
        rw [List.take_of_length_le (by rw [HN0.out]; exact Nat.le_refl _)] at e
        exact e⟩)
      clear hin ha hb hij
      go_wp2
      go_ret
      exact ⟨_, rfl, HG.out, HB.out⟩
/-- Between: the first i are what is left of the first j; from j on as it was. -/
structure DelAt (l l' : List Pr) (n : Int) (i j : Nat) : Prop where
  len : l'.length = l.length
  front : l'.take i = withoutP (l.take j) n
  back : l'.drop j = l.drop j
  lt : i < j
theorem withoutP_snoc (l : List Pr) (x : Pr) (n : Int) : withoutP (l ++ [x]) n = withoutP l n ++ (if x.1 = n then [] else [x]) := by
  unfold withoutP
  rw [List.filter_append]
  by_cases h : x.1 = n <;> simp [h]
theorem DelAt.skip {l l' : List Pr} {i j : Nat} {x : Pr} (h : DelAt l l' n i j) (hx : l[j]? = some x) (he : x.1 = n) : DelAt l l' n i (j + 1) := by
  refine ⟨h.len, ?_, ?_, by have := h.lt; omega⟩
  · rw [List.take_add_one, hx]
    show _ = withoutP (l.take j ++ [x]) n
    rw [withoutP_snoc, if_pos he, List.append_nil]
    exact h.front
  · have := congrArg (List.drop 1) h.back
    rwa [List.drop_drop, List.drop_drop] at this
theorem DelAt.keep {l l' : List Pr} {i j : Nat} {x : Pr} (h : DelAt l l' n i j) (hx : l[j]? = some x) (he : x.1 ≠ n) : DelAt l (l'.set i x) n (i + 1) (j + 1) := by
  have hlt := (List.getElem?_eq_some_iff.1 hx).1
  have h1 := h.lt
  have h2 := h.len
  refine ⟨by rw [List.length_set]; exact h2, ?_, ?_, by omega⟩
  · rw [List.take_add_one, List.take_add_one, hx, List.take_set_of_le (Nat.le_refl _), h.front, List.getElem?_set_self (by omega)]
    show _ = withoutP (l.take j ++ [x]) n
    rw [withoutP_snoc, if_neg he]
    rfl
  · rw [List.drop_set_of_lt (by omega)]
    have := congrArg (List.drop 1) h.back
    rwa [List.drop_drop, List.drop_drop] at this
theorem DelAt.get {l l' : List Pr} {i j : Nat} (h : DelAt l l' n i j) : l'[j]? = l[j]? := by
  have := congrArg (fun t => t[0]?) h.back
  simpa [List.getElem?_drop] using this
theorem DelAt.start {l : List Pr} {k : Nat} {x : Pr} (hx : l[k]? = some x) (he : x.1 = n) (hb : ∀ y ∈ l.take k, y.1 ≠ n) : DelAt l l n k (k + 1) := by
  refine ⟨rfl, ?_, rfl, by omega⟩
  rw [List.take_add_one, hx]
  show _ = withoutP (l.take k ++ [x]) n
  rw [withoutP_snoc, if_pos he, List.append_nil]
  unfold withoutP
  exact (List.filter_eq_self.2 fun y hy => by simpa using hb y hy).symm
end
end Go.Proofs.Ytgiogmbopiblmaa
