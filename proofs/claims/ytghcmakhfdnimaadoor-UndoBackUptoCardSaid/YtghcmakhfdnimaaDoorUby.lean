/- A log and a text of the reference, side by side; edited. No condition but those written. -/
import Derived.Test.YtghcmakhfdnimaaDoorUbx
import Derived.Test.YtghcmakhfdnimaaDoorUbw
import Derived.Test.YtghcmakhfdnimaaDoorRefB
namespace Go.Proofs.YtghcmakhfdnimaaDoor
open Go.RowKit

/-- The log reads as s, the text as L. -/
def UAt (W w : World) (lb : Nat) (s : Lg) (rb : Nat) (L : List Nat) (R : Heap) : Prop := ∃ b v, b.lb = lb ∧ LogAt W w b s (rHeap rb v L ++ R) ∧ RowOk v L.length
section
variable {W w w' : World} {lb rb : Nat} {s s' : Lg} {L L' : List Nat} {R : Heap}
theorem UAt.below (h : UAt W w lb s rb L R) (hb : Below w.heap.size w w') : UAt W w' lb s rb L R := by
  obtain ⟨b, v, e, h, ok⟩ := h
  exact ⟨b, v, e, h.below hb, ok⟩
theorem UAt.bel (h : UAt W w lb s rb L R) : Below W.heap.size W w := by
  obtain ⟨b, v, e, h, ok⟩ := h
  exact h.own.bel
theorem UAt.sub {R' : Heap} (h : UAt W w lb s rb L R) (hs : R'.Sublist R) : UAt W w lb s rb L R' := by
  obtain ⟨b, v, e, h, ok⟩ := h
  exact ⟨b, v, e, h.sub ((List.Sublist.refl _).append hs), ok⟩
theorem UAt.rest (h : UAt W w lb s rb L R) : Own W w R := by
  obtain ⟨b, v, e, h, ok⟩ := h
  exact h.own.sub (((List.sublist_append_right _ _)).trans (List.sublist_append_right _ _))
/-- A call of the log. -/
theorem u_log {f : FuncId} {args : Array Value} {P : Ending → Prop} (h : UAt W w lb s rb L R) (hc : ∀ b R', b.lb = lb → LogAt W w b s R' → Calls Tryd.prog f args w fun e w' => P e ∧ ∃ b', b'.lb = b.lb ∧ LogAt W w' b' s' R') : Calls Tryd.prog f args w fun e w' => P e ∧ UAt W w' lb s' rb L R := by
  obtain ⟨b, v, rfl, h, ok⟩ := h
  refine (hc b _ rfl h).mono ?_
  rintro e w' ⟨hp, b', hb, ht⟩
  exact ⟨hp, b', v, hb, ht, ok⟩
/-- A call of the text. -/
theorem u_ref {f : FuncId} {args : Array Value} {P : Ending → Prop} (h : UAt W w lb s rb L R) (hc : ∀ v R', RtAt W w rb v L R' → Calls Tryd.prog f args w fun e w' => P e ∧ ∃ v', RtAt W w' rb v' L' R') : Calls Tryd.prog f args w fun e w' => P e ∧ UAt W w' lb s rb L' R := by
  obtain ⟨b, v, rfl, h, ok⟩ := h
  have h1 : RtAt W w rb v L (b.heap s ++ R) := ⟨h.own.perm (List.perm_append_comm_assoc _ _ _), ok⟩
  refine (hc _ _ h1).mono ?_
  rintro e w' ⟨hp, v', ht⟩
  exact ⟨hp, b, v', rfl, ⟨ht.own.perm (List.perm_append_comm_assoc _ _ _), h.grp, h.okG, h.okO, h.okg⟩, ht.ok⟩
theorem u_read {f : FuncId} {args : Array Value} {P : Ending → Prop} (h : UAt W w lb s rb L R) (hc : ∀ v R', RtAt W w rb v L R' → Calls Tryd.prog f args w fun e w' => P e ∧ Below w.heap.size w w') : Calls Tryd.prog f args w fun e w' => P e ∧ UAt W w' lb s rb L R :=
  u_ref h fun v R' h1 => (hc v R' h1).mono fun e w' hh => ⟨hh.1, v, h1.below hh.2⟩
theorem usize_any (h : UAt W w lb s rb L R) (h6 : L.length ≤ 65536) : Calls Tryd.prog 15 #[.pointer (some ⟨rb, 0, none⟩)] w fun e w' => e = .returned (.int .i64 (L.length : Int)) ∧ UAt W w' lb s rb L R :=
  u_read h fun v R' h1 => by
    obtain ⟨A, c, rfl, hin, _⟩ := h1.open_ h6
    exact (rsize_any hin).mono fun e w' hh => ⟨hh.1, hh.2 ▸ Below.refl _ _⟩
theorem uslice_any (h : UAt W w lb s rb L R) (h6 : L.length ≤ 65536) (hok : ∀ x ∈ L, okc x) (a d : Int) : Calls Tryd.prog 42 #[.pointer (some ⟨rb, 0, none⟩), .int .i64 a, .int .i64 d] w fun e w' => e = .returned (sliceR L a d) ∧ UAt W w' lb s rb L R :=
  u_read h fun v R' h1 => by
    obtain ⟨A, c, rfl, hin, k1, k2, k3⟩ := h1.open_ h6
    exact rslice_any hin hok k1 k2 k3 a d
theorem uall_any (h : UAt W w lb s rb L R) (h6 : L.length ≤ 65536) (hok : ∀ x ∈ L, okc x) : Calls Tryd.prog 12 #[.pointer (some ⟨rb, 0, none⟩)] w fun e w' => e = .returned (.string (strOf L)) ∧ UAt W w' lb s rb L R :=
  u_read h fun v R' h1 => by
    obtain ⟨A, c, rfl, hin, k1, k2, k3⟩ := h1.open_ h6
    exact rall_any hin hok k1 k2 k3
theorem udel_any (h : UAt W w lb s rb L R) (h6 : L.length ≤ 65536) (x y : Int) : Calls Tryd.prog 43 #[.pointer (some ⟨rb, 0, none⟩), .int .i64 x, .int .i64 y] w fun e w' => e = .returned (.int .i64 (delErr L x y)) ∧ UAt W w' lb s rb (delL L x y) R :=
  u_ref h fun _ _ h1 => rdel_any h1 h6 x y
theorem uins_any (h : UAt W w lb s rb L R) (h6 : L.length ≤ 65536) (x : Int) (t : ByteArray) (ht : t.size ≤ 6000) : Calls Tryd.prog 44 #[.pointer (some ⟨rb, 0, none⟩), .int .i64 x, .string t] w fun e w' => e = .returned (.int .i64 (insErr L x t)) ∧ UAt W w' lb s rb (insL L x t) R :=
  u_ref h fun _ _ h1 => rins_any h1 h6 x t ht
theorem uadd_any (h : UAt W w lb s rb L R) (hg : Good s) (hS : Small s) (hT : Rules W) (c : Chg) (hs : c.tx.size ≤ 6000) (hc : c.check = 0) : Calls Tryd.prog 21 #[.pointer (some ⟨lb, 0, none⟩), c.val] w fun e w' => e = .returned (.int .i64 0) ∧ UAt W w' lb (s.add c) rb L R :=
  u_log h fun b R' e h1 => by
    subst e
    have := add_any h1 hg hS hT c (by omega)
    unfold AddRes at this
    rw [hc] at this
    exact this
theorem ubound_any (h : UAt W w lb s rb L R) (hg : Good s) (hS : Small s) (hT : Rules W) : Calls Tryd.prog 17 #[.pointer (some ⟨lb, 0, none⟩)] w fun e w' => e = .returned (.int .i64 0) ∧ UAt W w' lb s.close rb L R :=
  u_log h fun b R' e h1 => by
    subst e
    exact boundary_any h1 hg hS hT
/-- Undo: the changes lie beside. -/
theorem uundo_any (h : UAt W w lb s rb L R) (hg : Good s) (hS : Small s) (hT : Rules W) (hm : s.all.length ≤ 1000000) (again : Bool) : Calls Tryd.prog 18 #[.pointer (some ⟨lb, 0, none⟩), .bool again] w fun e w' => ∃ v, e = .returned (.tuple #[v, .int .i64 (s.undoErr again)]) ∧ UAt W w' lb (s.undo again) rb L (chgRow v (s.undone again) ++ R) ∧ RowOk v (s.undone again).length := by
  obtain ⟨b, v, rfl, h, ok⟩ := h
  refine (undo_any h hg hS hT hm again).mono ?_
  rintro e w' ⟨b', v', hb, rfl, h2, ok2⟩
  exact ⟨v', rfl, ⟨b', v, hb, h2.perm (List.perm_append_comm_assoc _ _ _), ok⟩, ok2⟩
theorem UAt.slC {v : Value} {l : List Chg} (h : UAt W w lb s rb L (chgRow v l ++ R)) (ok : RowOk v l.length) : Sl w 51 9 v l.length (rows Chg.cells l) := by
  obtain ⟨b, v', e, h, ok'⟩ := h
  exact h.own.slOf (fun x hx => List.mem_append_right _ (List.mem_append_right _ (List.mem_append_left _ hx))) (by rw [rows_len chg_len]) ok
theorem ne_empty {t : ByteArray} (h : t ≠ ⟨#[]⟩) : t.toList.isEmpty = false := by
  have h1 : t.data.toList ≠ [] := fun e => h (by cases t with | mk d => simp at e; rw [e])
  rw [ByteArray.toList_eq]
  cases h2 : t.data.toList with
  | nil => exact absurd h2 h1
  | cons => rfl
theorem empty_is {t : ByteArray} (h : t = ⟨#[]⟩) : t.toList.isEmpty = true := by subst h; rw [ByteArray.toList_eq]; rfl
/-- What edited leaves. -/
structure Ed (s s' : Lg) (S : Nat → List Nat) (L' : List Nat) (K : Nat) : Prop where
  fine : Fine s' S L' K
  G : s'.G = s.G
  ch : s'.ch = s.ch
def EdRes (W : World) (lb : Nat) (s : Lg) (rb : Nat) (S : Nat → List Nat) (L' : List Nat) (K : Nat) (R : Heap) (B : Prop) (e : Ending) (w' : World) : Prop :=
  e = .returned (.bool true) ∧ ∃ s', UAt W w' lb s' rb L' R ∧ Ed s s' S L' K ∧ (s'.O = [] ↔ s.O = [] ∧ B)
/-- A part of a text is taken out, and another put in. -/
structure EdIn (L M L' : List Nat) (a d : Nat) (t : ByteArray) : Prop where
  a1 : 1 ≤ a
  ad : a ≤ d
  dl : d ≤ L.length + 1
  l : Tx L
  l' : Tx L'
  m : M = L.take (a - 1) ++ L.drop (d - 1)
  e : L' = M.take (a - 1) ++ charsOf t ++ M.drop (a - 1)
  tv : validS t = true
  ts : t.size ≤ 6000
theorem EdIn.lenM {M : List Nat} {a d : Nat} {t : ByteArray} (h : EdIn L M L' a d t) : M.length = L.length - (d - a) := by
  have := h.a1
  have := h.ad
  have := h.dl
  rw [h.m, List.length_append, List.length_take, List.length_drop]
  omega
theorem EdIn.tm {M : List Nat} {a d : Nat} {t : ByteArray} (h : EdIn L M L' a d t) : Tx M := ⟨by have := h.lenM; have := h.l.len; omega, fun c hc => by
  rw [h.m] at hc
  rcases List.mem_append.1 hc with hc | hc
  · exact h.l.ok c (List.mem_of_mem_take hc)
  · exact h.l.ok c (List.mem_of_mem_drop hc)⟩
theorem EdIn.span {M : List Nat} {a d : Nat} {t : ByteArray} (h : EdIn L M L' a d t) : spanB L (a : Int) (d : Int) = true := by
  have := h.a1
  have := h.ad
  have := h.dl
  unfold spanB
  simp
  omega
theorem EdIn.slice {M : List Nat} {a d : Nat} {t : ByteArray} (h : EdIn L M L' a d t) : sliceR L (a : Int) (d : Int) = .tuple #[.string (strOf ((L.drop (a - 1)).take (d - a))), .int .i64 0] := by
  have := h.a1
  unfold sliceR
  rw [h.span, if_pos rfl, show ((a : Int) - 1).toNat = a - 1 by omega, show ((d : Int) - (a : Int)).toNat = d - a by omega]
theorem EdIn.del {M : List Nat} {a d : Nat} {t : ByteArray} (h : EdIn L M L' a d t) : delErr L (a : Int) (d : Int) = 0 ∧ delL L (a : Int) (d : Int) = M := by
  have := h.a1
  have := h.ad
  unfold delErr delL
  rw [h.span, if_pos rfl, if_pos rfl, show ((a : Int) - 1).toNat = a - 1 by omega, show ((d : Int) - 1).toNat = d - 1 by omega]
  exact ⟨rfl, h.m.symm⟩
theorem EdIn.ins {M : List Nat} {a d : Nat} {t : ByteArray} (h : EdIn L M L' a d t) : insErr M (a : Int) t = 0 ∧ insL M (a : Int) t = L' := by
  have h1 := h.a1
  have h2 := h.ad
  have h3 := h.dl
  have h4 := h.lenM
  have h5 := h.l'.len
  have h7 := h.l.len
  have h6 : L'.length = M.length + (charsOf t).length := by
    rw [h.e, List.length_append, List.length_append, List.length_take, List.length_drop]
    omega
  have e0 : insErr M (a : Int) t = 0 := by
    unfold insErr
    rw [if_neg (by omega), if_neg (by rw [h.tv]; simp), if_neg (by rw [lenS_eq]; omega)]
  refine ⟨e0, ?_⟩
  unfold insL
  rw [if_pos e0, show ((a : Int) - 1).toNat = a - 1 by omega]
  exact h.e.symm
theorem EdIn.gone {M : List Nat} {a d : Nat} {t : ByteArray} (h : EdIn L M L' a d t) : ∀ c ∈ (L.drop (a - 1)).take (d - a), okc c := fun c hc => h.l.ok c (List.mem_of_mem_drop (List.mem_of_mem_take hc))
theorem EdIn.size {M : List Nat} {a d : Nat} {t : ByteArray} (h : EdIn L M L' a d t) : (strOf ((L.drop (a - 1)).take (d - a))).size ≤ 6000 := by
  have h1 := strOf_size ((L.drop (a - 1)).take (d - a))
  have h2 := h.l.len
  have h3 : ((L.drop (a - 1)).take (d - a)).length ≤ L.length := by rw [List.length_take, List.length_drop]; omega
  omega
/-- The first change. -/
theorem EdIn.step1 {M : List Nat} {a d : Nat} {t : ByteArray} (h : EdIn L M L' a d t) (hd : a < d) : Step (remC (a : Int) (strOf ((L.drop (a - 1)).take (d - a)))) L M := by
  have h1 := h.a1
  have h3 := h.dl
  have h4 := h.lenM
  refine ⟨h.l, h.tm, .inr ⟨a, _, rfl, h1, by omega, valid_str h.gone, strOf_ne (fun e => ?_), h.size, ?_⟩⟩
  · have := congrArg List.length e
    rw [List.length_take, List.length_drop] at this
    simp at this
    omega
  · rw [chars_of_str h.gone, h.m, List.take_left' (by rw [List.length_take]; omega), List.drop_left' (by rw [List.length_take]; omega)]
    rw [show L.drop (d - 1) = (L.drop (a - 1)).drop (d - a) by rw [List.drop_drop]; congr 1; omega, List.append_assoc, List.take_append_drop, List.take_append_drop]
theorem EdIn.same {M : List Nat} {a d : Nat} {t : ByteArray} (h : EdIn L M L' a d t) (hd : ¬ a < d) : M = L := by
  have := h.ad
  obtain rfl : a = d := by omega
  rw [h.m, List.take_append_drop]
theorem EdIn.lenT {t : ByteArray} (hv : validS t = true) (hn : t ≠ ⟨#[]⟩) : 0 < (charsOf t).length := by
  rcases Nat.eq_zero_or_pos (charsOf t).length with e | e
  · exact absurd (by rw [← str_of_chars hv, List.eq_nil_of_length_eq_zero e, strOf_nil]) hn
  · exact e
/-- The second change. -/
theorem EdIn.step2 {M : List Nat} {a d : Nat} {t : ByteArray} (h : EdIn L M L' a d t) (ht : t ≠ ⟨#[]⟩) : Step (insC (a : Int) ((a : Int) + (lenS t : Int))) M L' := by
  have h1 := h.a1
  have h2 := h.ad
  have h3 := h.dl
  have h4 := h.lenM
  have h5 := EdIn.lenT h.tv ht
  have hl : (M.take (a - 1)).length = a - 1 := by rw [List.length_take]; omega
  refine ⟨h.tm, h.l', .inl ⟨a, a + lenS t, by rw [Int.natCast_add], h1, by rw [lenS_eq]; omega, ?_, ?_⟩⟩
  · rw [h.e, lenS_eq, List.length_append, List.length_append, hl]
    rw [List.length_drop]
    omega
  · rw [h.e, List.append_assoc, List.take_left' hl, lenS_eq, show a + (charsOf t).length - 1 = (a - 1) + (charsOf t).length by omega, ← List.drop_drop, List.drop_left' hl, List.drop_left, List.take_append_drop]
theorem EdIn.same2 {M : List Nat} {a d : Nat} {t : ByteArray} (h : EdIn L M L' a d t) (ht : t = ⟨#[]⟩) : L' = M := by
  rw [h.e, ht, charsOf_nil, List.append_nil, List.take_append_drop]
end
end Go.Proofs.YtghcmakhfdnimaaDoor
