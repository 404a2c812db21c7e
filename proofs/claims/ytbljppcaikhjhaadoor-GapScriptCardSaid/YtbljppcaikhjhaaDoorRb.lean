/- A text beside the reference; same. No condition but those written. -/
import Derived.Test.YtbljppcaikhjhaaDoorRi
import Derived.Test.YtbljppcaikhjhaaDoorRx
import Derived.Test.YtbljppcaikhjhaaDoorCk
import Derived.Test.YtbljppcaikhjhaaDoorGapAc
namespace Go.Proofs.YtbljppcaikhjhaaDoor
open Go.RowKit

theorem FirstAt.uniq {L : List Nat} {c lo hi : Int} {v v' : Value} (h : FirstAt L c lo hi v) (h' : FirstAt L c lo hi v') : v' = v := by
  rcases h with ⟨p, rfl, a1, a2, a3, a4⟩ | ⟨rfl, a1⟩ <;> rcases h' with ⟨q, rfl, b1, b2, b3, b4⟩ | ⟨rfl, b1⟩
  · have : p = q := by
      by_cases h1 : p < q
      · exact absurd a3 (b4 p a1 h1)
      · by_cases h2 : q < p
        · exact absurd b3 (a4 q b1 h2)
        · omega
    rw [this]
  · exact absurd a3 (b1 p a1 a2)
  · exact absurd b3 (a1 q b1 b2)
  · rfl
theorem LastAt.uniq {L : List Nat} {c lo hi : Int} {v v' : Value} (h : LastAt L c lo hi v) (h' : LastAt L c lo hi v') : v' = v := by
  rcases h with ⟨p, rfl, a1, a2, a3, a4⟩ | ⟨rfl, a1⟩ <;> rcases h' with ⟨q, rfl, b1, b2, b3, b4⟩ | ⟨rfl, b1⟩
  · have : p = q := by
      by_cases h1 : p < q
      · exact absurd b3 (a4 q h1 b2)
      · by_cases h2 : q < p
        · exact absurd a3 (b4 p h2 a2)
        · omega
    rw [this]
  · exact absurd a3 (b1 p a1 a2)
  · exact absurd b3 (a1 q b1 b2)
  · rfl
theorem FirstAt.shape {L : List Nat} {c lo hi : Int} {v : Value} (h : FirstAt L c lo hi v) : ∃ p b, v = .tuple #[.int .i64 p, .bool b] := by
  rcases h with ⟨p, rfl, _⟩ | ⟨rfl, _⟩
  · exact ⟨p, true, rfl⟩
  · exact ⟨0, false, rfl⟩
theorem LastAt.shape {L : List Nat} {c lo hi : Int} {v : Value} (h : LastAt L c lo hi v) : ∃ p b, v = .tuple #[.int .i64 p, .bool b] := by
  rcases h with ⟨p, rfl, _⟩ | ⟨rfl, _⟩
  · exact ⟨p, true, rfl⟩
  · exact ⟨0, false, rfl⟩
theorem sliceR_shape (L : List Nat) (a d : Int) : ∃ s e, sliceR L a d = .tuple #[.string s, .int .i64 e] := by
  unfold sliceR
  split
  · exact ⟨_, _, rfl⟩
  · exact ⟨_, _, rfl⟩
theorem lineR_shape (L : List Nat) (z : Int) : ∃ a b t, lineR L z = .tuple #[.int .i64 a, .int .i64 b, .bool t] := by
  unfold lineR
  split
  · exact ⟨_, _, _, rfl⟩
  · exact ⟨_, _, _, rfl⟩
theorem lineAt_shape (L : List Nat) (p : Int) : ∃ a t, (if 1 ≤ p ∧ p ≤ (L.length : Int) + 1 then Value.tuple #[.int .i64 (lineOf L p.toNat : Int), .bool true] else .tuple #[.int .i64 0, .bool false]) = .tuple #[.int .i64 a, .bool t] := by
  split
  · exact ⟨_, _, rfl⟩
  · exact ⟨_, _, rfl⟩
/-- A text and the reference, side by side. -/
def BothG (W w : World) (tb : Nat) (L1 : List Nat) (rb : Nat) (L2 : List Nat) (R : Heap) : Prop := ∃ v, Txt W w tb L1 (rHeap rb v L2 ++ R) ∧ RowOk v L2.length
section
variable {W w w' : World} {tb rb : Nat} {L L1 L2 : List Nat} {R : Heap}
theorem BothG.below (h : BothG W w tb L1 rb L2 R) (hb : Below w.heap.size w w') : BothG W w' tb L1 rb L2 R := by
  obtain ⟨v, h, ok⟩ := h
  exact ⟨v, h.below hb, ok⟩
theorem BothG.bel (h : BothG W w tb L1 rb L2 R) : Below W.heap.size W w := by
  obtain ⟨v, h, ok⟩ := h
  exact h.bel
theorem BothG.ok (h : BothG W w tb L1 rb L2 R) : L1.length ≤ 65536 ∧ ∀ c ∈ L1, okc c := by
  obtain ⟨v, h, ok⟩ := h
  exact h.ok
theorem BothG.sub {R' : Heap} (h : BothG W w tb L1 rb L2 R) (hs : R'.Sublist R) : BothG W w tb L1 rb L2 R' := by
  obtain ⟨v, ⟨b, e, h⟩, ok⟩ := h
  exact ⟨v, ⟨b, e, h.gap.sub ((List.Sublist.refl _).append hs), h.ok⟩, ok⟩
theorem BothG.box (h : BothG W w tb L1 rb L2 R) (t : TypeId) (cs : Array Value) : BothG W (w.alloc (.cells cs t)) tb L1 rb L2 ((w.heap.size, .cells t cs) :: R) := by
  obtain ⟨v, ⟨b, e, h⟩, ok⟩ := h
  have h1 := h.gap.own.newCells t cs
  refine ⟨v, ⟨b, e, ⟨h1.perm ?_, h.gap.okf, h.gap.le1, h.gap.le2, h.gap.lim⟩, h.ok⟩, ok⟩
  classical
  rw [List.perm_iff_count]
  intro x
  simp only [List.count_append, List.count_cons]
  omega
theorem BothG.boxed (h : BothG W w tb L1 rb L2 R) {x : Nat × Ast} (hx : x ∈ R) : ∃ h : Heap, Own W w h ∧ x ∈ h := by
  obtain ⟨v, ⟨b, e, h⟩, ok⟩ := h
  exact ⟨_, h.gap.own, by simp [hx]⟩
/-- A method of the text. -/
theorem both_t {f : FuncId} {args : Array Value} {P : Ending → Prop} {L' : List Nat} (h : BothG W w tb L1 rb L2 R) (hc : ∀ R', Txt W w tb L1 R' → Calls Tryd.prog f args w fun e w' => P e ∧ Txt W w' tb L' R') : Calls Tryd.prog f args w fun e w' => P e ∧ BothG W w' tb L' rb L2 R := by
  obtain ⟨v, h, ok⟩ := h
  refine (hc _ h).mono ?_
  rintro e w' ⟨hp, ht⟩
  exact ⟨hp, v, ht, ok⟩
/-- A method of the reference. -/
theorem both_r {f : FuncId} {args : Array Value} {P : Ending → Prop} {L' : List Nat} (h : BothG W w tb L1 rb L2 R) (hc : ∀ v R', RtAt W w rb v L2 R' → Calls Tryd.prog f args w fun e w' => P e ∧ ∃ v', RtAt W w' rb v' L' R') : Calls Tryd.prog f args w fun e w' => P e ∧ BothG W w' tb L1 rb L' R := by
  obtain ⟨v, ⟨b, rfl, h⟩, ok⟩ := h
  have h1 : RtAt W w rb v L2 (b.heap ++ R) := by
    refine ⟨h.gap.own.perm ?_, ok⟩
    exact List.perm_append_comm_assoc _ _ _
  refine (hc _ _ h1).mono ?_
  rintro e w' ⟨hp, v', ht⟩
  refine ⟨hp, v', ⟨b, rfl, ⟨ht.own.perm ?_, h.gap.okf, h.gap.le1, h.gap.le2, h.gap.lim⟩, h.ok⟩, ht.ok⟩
  exact List.perm_append_comm_assoc _ _ _
theorem both_read {f : FuncId} {args : Array Value} {P : Ending → Prop} (h : BothG W w tb L1 rb L2 R) (hc : ∀ v R', RtAt W w rb v L2 R' → Calls Tryd.prog f args w fun e w' => P e ∧ Below w.heap.size w w') : Calls Tryd.prog f args w fun e w' => P e ∧ BothG W w' tb L1 rb L2 R :=
  both_r h fun v R' h1 => (hc v R' h1).mono fun e w' hh => ⟨hh.1, v, h1.below hh.2⟩
theorem still {e : Ending} {P : Ending → Prop} (h : P e ∧ w = w') : P e ∧ Below w.heap.size w w' := ⟨h.1, h.2 ▸ Below.refl _ _⟩
theorem rsize_both (h : BothG W w tb L1 rb L2 R) (h6 : L2.length ≤ 65536) : Calls Tryd.prog 54 #[.pointer (some ⟨rb, 0, none⟩)] w fun e w' => e = .returned (.int .i64 (L2.length : Int)) ∧ BothG W w' tb L1 rb L2 R :=
  both_read h fun v R' h1 => by
    obtain ⟨A, c, rfl, hin, _⟩ := h1.open_ h6
    exact (rsize_any hin).mono fun e w' hh => ⟨hh.1, hh.2 ▸ Below.refl _ _⟩
theorem rchar_both (h : BothG W w tb L1 rb L2 R) (h6 : L2.length ≤ 65536) (p : Int) : Calls Tryd.prog 47 #[.pointer (some ⟨rb, 0, none⟩), .int .i64 p] w fun e w' => e = .returned (.tuple #[.int .i64 (charR L2 p), .bool (decide (1 ≤ p ∧ p ≤ (L2.length : Int)))]) ∧ BothG W w' tb L1 rb L2 R :=
  both_read h fun v R' h1 => by
    obtain ⟨A, c, rfl, hin, _⟩ := h1.open_ h6
    exact (rchar_any hin p).mono fun e w' hh => ⟨hh.1, hh.2 ▸ Below.refl _ _⟩
theorem rslice_both (h : BothG W w tb L1 rb L2 R) (h6 : L2.length ≤ 65536) (hok : ∀ x ∈ L2, okc x) (a d : Int) : Calls Tryd.prog 48 #[.pointer (some ⟨rb, 0, none⟩), .int .i64 a, .int .i64 d] w fun e w' => e = .returned (sliceR L2 a d) ∧ BothG W w' tb L1 rb L2 R :=
  both_read h fun v R' h1 => by
    obtain ⟨A, c, rfl, hin, k1, k2, k3⟩ := h1.open_ h6
    exact rslice_any hin hok k1 k2 k3 a d
theorem rall_both (h : BothG W w tb L1 rb L2 R) (h6 : L2.length ≤ 65536) (hok : ∀ x ∈ L2, okc x) : Calls Tryd.prog 53 #[.pointer (some ⟨rb, 0, none⟩)] w fun e w' => e = .returned (.string (strOf L2)) ∧ BothG W w' tb L1 rb L2 R :=
  both_read h fun v R' h1 => by
    obtain ⟨A, c, rfl, hin, k1, k2, k3⟩ := h1.open_ h6
    exact rall_any hin hok k1 k2 k3
theorem rfind_both {x lo hi : Int} {v0 : Value} (h : BothG W w tb L1 rb L2 R) (h6 : L2.length ≤ 65536) (hv : FirstAt L2 x (max lo 1) (min hi ((L2.length : Int) + 1)) v0) : Calls Tryd.prog 49 #[.pointer (some ⟨rb, 0, none⟩), .int .i64 x, .int .i64 lo, .int .i64 hi] w fun e w' => e = .returned v0 ∧ BothG W w' tb L1 rb L2 R :=
  both_read h fun v R' h1 => by
    obtain ⟨A, c, rfl, hin, _⟩ := h1.open_ h6
    refine (rfind_any hin x lo hi).mono ?_
    rintro e w' ⟨v1, rfl, h2, rfl⟩
    exact ⟨by rw [hv.uniq h2], Below.refl _ _⟩
theorem rfindback_both {x lo hi : Int} {v0 : Value} (h : BothG W w tb L1 rb L2 R) (h6 : L2.length ≤ 65536) (hv : LastAt L2 x (max lo 1) (min (max hi 1) ((L2.length : Int) + 1)) v0) : Calls Tryd.prog 50 #[.pointer (some ⟨rb, 0, none⟩), .int .i64 x, .int .i64 lo, .int .i64 hi] w fun e w' => e = .returned v0 ∧ BothG W w' tb L1 rb L2 R :=
  both_read h fun v R' h1 => by
    obtain ⟨A, c, rfl, hin, _⟩ := h1.open_ h6
    refine (rfindback_any hin x lo hi).mono ?_
    rintro e w' ⟨v1, rfl, h2, rfl⟩
    exact ⟨by rw [hv.uniq h2], Below.refl _ _⟩
theorem rline_both (h : BothG W w tb L1 rb L2 R) (h6 : L2.length ≤ 65536) (z : Int) : Calls Tryd.prog 51 #[.pointer (some ⟨rb, 0, none⟩), .int .i64 z] w fun e w' => e = .returned (lineR L2 z) ∧ BothG W w' tb L1 rb L2 R :=
  both_read h fun v R' h1 => by
    obtain ⟨A, c, rfl, hin, _⟩ := h1.open_ h6
    exact (rline_any hin z).mono fun e w' hh => ⟨hh.1, hh.2 ▸ Below.refl _ _⟩
theorem rlineat_both (h : BothG W w tb L1 rb L2 R) (h6 : L2.length ≤ 65536) (p : Int) : Calls Tryd.prog 52 #[.pointer (some ⟨rb, 0, none⟩), .int .i64 p] w fun e w' => e = .returned (if 1 ≤ p ∧ p ≤ (L2.length : Int) + 1 then .tuple #[.int .i64 (lineOf L2 p.toNat : Int), .bool true] else .tuple #[.int .i64 0, .bool false]) ∧ BothG W w' tb L1 rb L2 R :=
  both_read h fun v R' h1 => by
    obtain ⟨A, c, rfl, hin, _⟩ := h1.open_ h6
    exact (rlineat_any hin p).mono fun e w' hh => ⟨hh.1, hh.2 ▸ Below.refl _ _⟩
theorem rlines_both (h : BothG W w tb L1 rb L2 R) (h6 : L2.length ≤ 65536) : Calls Tryd.prog 55 #[.pointer (some ⟨rb, 0, none⟩)] w fun e w' => e = .returned (.int .i64 (linesN L2 : Int)) ∧ BothG W w' tb L1 rb L2 R :=
  both_read h fun v R' h1 => by
    obtain ⟨A, c, rfl, hin, _⟩ := h1.open_ h6
    exact (rlines_any hin).mono fun e w' hh => ⟨hh.1, hh.2 ▸ Below.refl _ _⟩
theorem rins_both (h : BothG W w tb L1 rb L2 R) (h6 : L2.length ≤ 65536) (x : Int) (s : ByteArray) (hs : s.size ≤ 1000) : Calls Tryd.prog 31 #[.pointer (some ⟨rb, 0, none⟩), .int .i64 x, .string s] w fun e w' => e = .returned (.int .i64 (insErr L2 x s)) ∧ BothG W w' tb L1 rb (insL L2 x s) R :=
  both_r h fun _ _ h1 => rins_any h1 h6 x s hs
theorem rdel_both (h : BothG W w tb L1 rb L2 R) (h6 : L2.length ≤ 65536) (x y : Int) : Calls Tryd.prog 32 #[.pointer (some ⟨rb, 0, none⟩), .int .i64 x, .int .i64 y] w fun e w' => e = .returned (.int .i64 (delErr L2 x y)) ∧ BothG W w' tb L1 rb (delL L2 x y) R :=
  both_r h fun _ _ h1 => rdel_any h1 h6 x y
theorem do_both (h : BothG W w tb L1 rb L2 R) (hT : Tabs W) (a : Ac) (hs : a.tx.size < 9223372036854775807) : Calls Tryd.prog 17 #[.pointer (some ⟨tb, 0, none⟩), a.val] w fun e w' => e = .returned (.int .i64 (a.err L1)) ∧ BothG W w' tb (a.act L1) rb L2 R :=
  both_t h fun _ h1 => do_any h1 hT a hs
/-- Copy: the copy stands for the text, the text waits beside. -/
theorem copy_both (h : BothG W w tb L rb L2 R) : Calls Tryd.prog 34 #[.pointer (some ⟨tb, 0, none⟩)] w fun e w' => ∃ t2 R1, e = .returned (.pointer (some ⟨t2, 0, none⟩)) ∧ BothG W w' t2 L rb L2 (R1 ++ R) ∧ ∀ w'', BothG W w'' t2 L rb L2 (R1 ++ R) → BothG W w'' tb L rb L2 R := by
  obtain ⟨v, ⟨b, rfl, h⟩, ok⟩ := h
  refine (copy_keep h).mono ?_
  rintro e w' ⟨t2, rfl, b2, rfl, h2, g2⟩
  refine ⟨b2.tb, b.heap, rfl, ⟨v, ⟨b2, rfl, g2.at_ (h2.perm ?_)⟩, ok⟩, ?_⟩
  · classical
    rw [List.perm_iff_count]
    intro x
    simp only [List.count_append, List.count_cons]
    omega
  · rintro w'' ⟨v', ⟨b3, _, h3⟩, ok3⟩
    refine ⟨v', ⟨b, rfl, h.gok.at_ (Own.sub (h3.gap.own.perm (R := b.heap ++ (rHeap rb v' L2 ++ (b3.heap ++ R))) ?_) ?_)⟩, ok3⟩
    · classical
      rw [List.perm_iff_count]
      intro x
      simp only [List.count_append, List.count_cons]
      omega
    · exact (List.Sublist.refl _).append ((List.Sublist.refl _).append (List.sublist_append_right _ _))
end
end Go.Proofs.YtbljppcaikhjhaaDoor
