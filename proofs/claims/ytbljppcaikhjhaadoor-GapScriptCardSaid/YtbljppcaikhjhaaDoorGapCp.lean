/- slices.Clone at characters and at integers; Copy; two texts at once. No condition but those written. -/
import Derived.Test.YtbljppcaikhjhaaDoorGapPl
namespace Go.Proofs.YtbljppcaikhjhaaDoor
open Go.RowKit

theorem Sl.owned {w : World} {T : TypeId} {k n g : Nat} {v : Value} {xs : List Value} (h : Sl w T k v n xs) (hg : v.ownBlock = some g) : ∃ off c, v = .slice (some ⟨g, off, none⟩) n c ∧ n ≤ c ∧ c ≤ maxLen := by
  rcases h.2 with ⟨rfl, _⟩ | ⟨g', off, cap, cs, rfl, _, h1, h2, _⟩
  · simp [Value.ownBlock] at hg
  · simp [Value.ownBlock] at hg
    subst hg
    exact ⟨off, cap, rfl, h1, h2⟩
theorem info_rune4 : (Tryd.prog.info? 21).map (fun i => (i.zero, i.size, i.bytes)) = some (some (.int .i32 0), 1, 4) := by kernel_rfl
theorem eql_intsl (w : World) (a : Option Addr) (n c : Nat) : (binOp .eql 59 (.slice a n c) (.slice none 0 0)).run Tryd.prog w = .ok (.bool a.isNone) w := Lib.run_eql_slice_nil w _ _ a n c 0 0 Tryd.underlying59
attribute [local go_sem] eql_runes eql_intsl
theorem runs_cell (B : List Nat) : ∀ u ∈ runs B, u.oneCell' = true := by
  intro u hu
  obtain ⟨c, _, rfl⟩ := List.mem_map.1 hu
  rfl
/-- A slice of the call's own is handed back. -/
def FreshI (w : World) (T n : Nat) (xs : List Value) (e : Ending) (w' : World) : Prop := ∃ v, e = .returned v ∧ Sl w' T 1 v n xs ∧ (∀ g, v.ownBlock = some g → w.heap.size ≤ g) ∧ Below w.heap.size w w'
def FreshR (w : World) (T n : Nat) (xs : List Value) (e : Ending) (w' : World) : Prop := ∃ g off c, e = .returned (.slice (some ⟨g, off, none⟩) n c) ∧ Sl w' T 1 (.slice (some ⟨g, off, none⟩) n c) n xs ∧ w.heap.size ≤ g ∧ Below w.heap.size w w'
set_option maxRecDepth 100000 in
set_option maxHeartbeats 2000000 in
theorem clone_runes (a : Addr) (n c : Nat) (xs : List Value) (w : World) (h : Rd w (.slice (some a) n c) 1 n xs) (hx : ∀ u ∈ xs, u.oneCell' = true) (hN : n ≤ 1000000) :
    Calls Tryd.prog 56 #[.slice (some a) n c] w (FreshR w 21 n xs) := by
  obtain ⟨i0, hi, hz0, hz1, hz2⟩ := info_parts info_rune4
  have he := Sl.new w 21 1 #[] 0 0 (Nat.le_refl _) (by simp [maxLen]) (by simp)
  have he2 : Sl (w.alloc (.cells #[] 21)) 21 1 (.slice (some ⟨w.heap.size, 0, none⟩) 0 0) 0 [] := by simpa using he
  have hB : Below w.heap.size w (w.alloc (.cells #[] 21)) := (Below.refl _ _).alloc (Nat.le_refl _) _
  have hr : Rd (w.alloc (.cells #[] 21)) (.slice (some a) n c) 1 n xs := h.only (Only.of_below hB) fun _ _ f => f
  go_enter Tryd.func56, Tryd.ntmps56
  go_wp2_with (at_builtin; go_loud (refine wpList_append_sl rfl (.tmp 5) (.tmp 6) 62 rfl 21 i0 _ 1 4 Tryd.underlying62 hi hz0 hz1 hz2 rfl _ 0 [] rfl he2 _ rfl n xs hr hx ?b1 ?b2 ?_))
  case b1 => unfold maxLen; omega
  case b2 => omega
  intro v' w' hsl honly hv'
  have HB := hide (hB.trans (honly.below (B := w.heap.size) (by simp) fun i hi => by simp [Value.ownBlock] at hi; omega))
  have hs2 : Sl w' 21 1 v' n xs := by simpa using hsl
  obtain ⟨g, hg, hg2⟩ : ∃ g, v'.ownBlock = some g ∧ w.heap.size ≤ g := by
    rcases hv' with e | e
    · exact ⟨w.heap.size, e, Nat.le_refl _⟩
    · exact ⟨_, e, by simp⟩
  obtain ⟨off, c2, rfl, _, _⟩ := hs2.owned hg
  have HS := hide hs2
  have HG := hide hg2
  clear hsl honly hv' hB he h hs2 hg hg2
  go_wp2
  go_ret
  exact ⟨_, _, _, rfl, HS.out, HG.out, HB.out⟩
set_option maxRecDepth 100000 in
set_option maxHeartbeats 2000000 in
theorem clone_ints_some (a : Addr) (n c : Nat) (xs : List Value) (w : World) (h : Rd w (.slice (some a) n c) 1 n xs) (hx : ∀ u ∈ xs, u.oneCell' = true) (hN : n ≤ 1000000) :
    Calls Tryd.prog 57 #[.slice (some a) n c] w (FreshI w 3 n xs) := by
  obtain ⟨i0, hi, hz0, hz1, hz2⟩ := info_parts info_int
  have he := Sl.new w 3 1 #[] 0 0 (Nat.le_refl _) (by simp [maxLen]) (by simp)
  have he2 : Sl (w.alloc (.cells #[] 3)) 3 1 (.slice (some ⟨w.heap.size, 0, none⟩) 0 0) 0 [] := by simpa using he
  have hB : Below w.heap.size w (w.alloc (.cells #[] 3)) := (Below.refl _ _).alloc (Nat.le_refl _) _
  have hr : Rd (w.alloc (.cells #[] 3)) (.slice (some a) n c) 1 n xs := h.only (Only.of_below hB) fun _ _ f => f
  go_enter Tryd.func57, Tryd.ntmps57
  go_wp2_with (at_builtin; go_loud (refine wpList_append_sl rfl (.tmp 5) (.tmp 6) 59 rfl 3 i0 _ 1 8 Tryd.underlying59 hi hz0 hz1 hz2 rfl _ 0 [] rfl he2 _ rfl n xs hr hx ?b1 ?b2 ?_))
  case b1 => unfold maxLen; omega
  case b2 => omega
  intro v' w' hsl honly hv'
  have HB := hide (hB.trans (honly.below (B := w.heap.size) (by simp) fun i hi => by simp [Value.ownBlock] at hi; omega))
  have HS := hide (show Sl w' 3 1 v' n xs by simpa using hsl)
  have HG := hide (show ∀ g, v'.ownBlock = some g → w.heap.size ≤ g from fun g hg => by
    rcases hv' with e | e <;> rw [e] at hg <;> simp [Value.ownBlock] at hg <;> omega)
  clear hsl honly hv' hB he h
  go_wp2
  go_ret
  exact ⟨_, rfl, HS.out, HG.out, HB.out⟩
set_option maxRecDepth 100000 in
set_option maxHeartbeats 4000000 in
theorem clone_ints_none (c : Nat) (w : World) : Calls Tryd.prog 57 #[.slice none 0 c] w (FreshI w 3 0 []) := by
  have HF := hide (show FreshI w 3 0 [] (.returned (.slice none 0 0)) w from ⟨_, rfl, Sl.nil _ _ _, fun g hg => by simp [Value.ownBlock] at hg, Below.refl _ _⟩)
  go_enter Tryd.func57, Tryd.ntmps57
  go_wp2
  go_ret
  exact HF.out
theorem clone_ints (v : Value) (n : Nat) (xs : List Value) (w : World) (h : Rd w v 1 n xs) (hx : ∀ u ∈ xs, u.oneCell' = true) (hN : n ≤ 1000000) :
    Calls Tryd.prog 57 #[v] w (FreshI w 3 n xs) := by
  obtain ⟨A, c, rfl, hl, hr⟩ := id h
  cases A with
  | some a => exact clone_ints_some a n c xs w h hx hN
  | none =>
    have h0 : n = 0 := by
      rcases Nat.eq_zero_or_pos n with h0 | h0
      · exact h0
      · obtain ⟨b, off, hA, _⟩ := hr h0
        cases hA
    subst h0
    have := List.eq_nil_of_length_eq_zero (by simpa using hl)
    subst this
    exact clone_ints_none c w

/-! ### Two texts -/
/-- What holds of a text's place beside where it lies. -/
structure GOk (b : Gb) (L : List Nat) : Prop where
  okf : RowOk b.fv b.g.F.length
  le1 : b.g.st ≤ b.g.en
  le2 : b.g.en ≤ b.g.B.length
  lim : b.g.B.length ≤ 131104
  ok : b.g.Ok L
theorem TextAt.gok {W w : World} {b : Gb} {L : List Nat} {R : Heap} (h : TextAt W w b L R) : GOk b L := ⟨h.gap.okf, h.gap.le1, h.gap.le2, h.gap.lim, h.ok⟩
theorem GOk.at_ {W w : World} {b : Gb} {L : List Nat} {R : Heap} (h : GOk b L) (ho : Own W w (b.heap ++ R)) : TextAt W w b L R := ⟨⟨ho, h.okf, h.le1, h.le2, h.lim⟩, h.ok⟩
/-- Two texts lie in memory. -/
def Two (W w : World) (t1 : Nat) (L1 : List Nat) (t2 : Nat) (L2 : List Nat) : Prop := ∃ (b1 b2 : Gb) (R : Heap), b1.tb = t1 ∧ b2.tb = t2 ∧ Own W w (b1.heap ++ (b2.heap ++ R)) ∧ GOk b1 L1 ∧ GOk b2 L2
section
variable {W w w' : World} {t1 t2 : Nat} {L1 L2 : List Nat}
theorem Two.flip (h : Two W w t1 L1 t2 L2) : Two W w t2 L2 t1 L1 := by
  obtain ⟨b1, b2, R, e1, e2, h, k1, k2⟩ := h
  refine ⟨b2, b1, R, e2, e1, h.perm ?_, k2, k1⟩
  classical
  rw [List.perm_iff_count]
  intro x
  simp only [List.count_append, List.count_cons]
  omega
theorem Two.bel (h : Two W w t1 L1 t2 L2) : Below W.heap.size W w := by
  obtain ⟨b1, b2, R, e1, e2, h, k1, k2⟩ := h
  exact h.bel
theorem Two.below (h : Two W w t1 L1 t2 L2) (hb : Below w.heap.size w w') : Two W w' t1 L1 t2 L2 := by
  obtain ⟨b1, b2, R, e1, e2, h, k1, k2⟩ := h
  exact ⟨b1, b2, R, e1, e2, h.below hb, k1, k2⟩
theorem Two.ok (h : Two W w t1 L1 t2 L2) : L1.length ≤ 65536 ∧ ∀ c ∈ L1, okc c := by
  obtain ⟨b1, b2, R, e1, e2, h, k1, k2⟩ := h
  exact ⟨k1.ok.size, k1.ok.okc⟩
/-- A method of the first text leaves the second one. -/
theorem Two.of {f : FuncId} {args : Array Value} {P : Ending → Prop} {L' : List Nat} (h : Two W w t1 L1 t2 L2) (hc : ∀ R, Txt W w t1 L1 R → Calls Tryd.prog f args w fun e w' => P e ∧ Txt W w' t1 L' R) : Calls Tryd.prog f args w fun e w' => P e ∧ Two W w' t1 L' t2 L2 := by
  obtain ⟨b1, b2, R, e1, e2, h, k1, k2⟩ := h
  refine (hc (b2.heap ++ R) ⟨b1, e1, k1.at_ h⟩).mono ?_
  rintro e w' ⟨hp, b, hb, ht⟩
  exact ⟨hp, b, b2, R, hb, e2, ht.gap.own, ht.gok, k2⟩
end
end Go.Proofs.YtbljppcaikhjhaaDoor
