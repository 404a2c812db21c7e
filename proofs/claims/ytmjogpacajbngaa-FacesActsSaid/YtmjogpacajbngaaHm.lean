/- Both side by side, and other blocks beside them. No condition but those written. -/
import Derived.Test.YtmjogpacajbngaaHj
namespace Go.Proofs.Ytmjogpacajbngaa
open Go.RowKit

abbrev refHeapX (rb : Nat) (vN : Value) (ns : List ByteArray) (vA : Value) (av : List Att) (X : Heap) : Heap := (rb, .cells 43 #[vN, vA]) :: (rowOf 9 1 vN ns.length (strs ns) ++ (rowOf 23 6 vA av.length (rows Att.cells av) ++ X))
abbrev facHeapX (fb mb : Nat) (D : Fm) (X : Heap) : Heap := (fb, .cells 60 #[.map (some mb)]) :: (mb, .map (facePairs D)) :: X
/-- Both, side by side, and X beside them. -/
structure BothX (W w : World) (fb mb rb : Nat) (vN vA : Value) (D L : Fm) (X : Heap) : Prop where
  fa : FaAt W w fb mb D (refHeapX rb vN (L.map (·.1)) vA (L.map (·.2)) X)
  okN : RowOk vN (L.map (·.1)).length
  okA : RowOk vA (L.map (·.2)).length
theorem perm_two {α : Type} (f m r : α) (P Q X : List α) : (f :: m :: r :: (P ++ (Q ++ X))).Perm (r :: (P ++ (Q ++ (f :: m :: X)))) := by
  have h1 : (f :: m :: r :: (P ++ (Q ++ X))).Perm (r :: f :: m :: (P ++ (Q ++ X))) := ((List.Perm.swap _ _ _).cons _).trans (List.Perm.swap _ _ _)
  refine h1.trans (List.Perm.cons _ ?_)
  have h2 : ([f, m] ++ ((P ++ Q) ++ X)).Perm ((P ++ Q) ++ ([f, m] ++ X)) := by
    rw [← List.append_assoc [f, m] (P ++ Q) X, ← List.append_assoc (P ++ Q) [f, m] X]
    exact List.perm_append_comm.append_right _
  rw [List.append_assoc P Q X, List.append_assoc P Q ([f, m] ++ X)] at h2
  exact h2
section
variable {W w w' : World} {fb mb rb : Nat} {vN vA : Value} {D L : Fm} {X : Heap}
theorem BothX.rf (h : BothX W w fb mb rb vN vA D L X) : RfAt W w rb vN (L.map (·.1)) vA (L.map (·.2)) (facHeapX fb mb D X) := ⟨Own.perm h.fa (perm_two _ _ _ _ _ _), h.okN, h.okA⟩
theorem RfAt.bothX (h : RfAt W w rb vN (L.map (·.1)) vA (L.map (·.2)) (facHeapX fb mb D X)) : BothX W w fb mb rb vN vA D L X := ⟨h.own.perm (perm_two _ _ _ _ _ _).symm, h.okN, h.okA⟩
theorem BothX.below (h : BothX W w fb mb rb vN vA D L X) (hb : Below w.heap.size w w') : BothX W w' fb mb rb vN vA D L X := ⟨h.fa.below hb, h.okN, h.okA⟩
theorem BothX.box (h : BothX W w fb mb rb vN vA D L X) (t : TypeId) (cs : Array Value) : BothX W (w.alloc (.cells cs t)) fb mb rb vN vA D L ((w.heap.size, .cells t cs) :: X) := by
  refine ⟨(Own.newCells h.fa t cs).perm ?_, h.okN, h.okA⟩
  have h1 := List.perm_middle (a := (w.heap.size, Ast.cells t cs)) (l₁ := (fb, Ast.cells 60 #[.map (some mb)]) :: (mb, .map (facePairs D)) :: (rb, .cells 43 #[vN, vA]) :: (rowOf 9 1 vN (L.map (·.1)).length (strs (L.map (·.1))) ++ rowOf 23 6 vA (L.map (·.2)).length (rows Att.cells (L.map (·.2))))) (l₂ := X)
  simp only [List.cons_append, List.append_assoc] at h1
  exact h1.symm
theorem BothX.unbox {x : Nat × Ast} (h : BothX W w fb mb rb vN vA D L (x :: X)) : BothX W w fb mb rb vN vA D L X := by
  refine ⟨Own.sub h.fa ?_, h.okN, h.okA⟩
  exact (((((List.Sublist.refl _).append ((List.Sublist.refl _).append (List.sublist_cons_self _ _))).cons_cons _).cons_cons _).cons_cons _)
theorem BothX.mem (h : BothX W w fb mb rb vN vA D L X) {g : Nat} {t : TypeId} {cs : Array Value} (hx : (g, Ast.cells t cs) ∈ X) : Blk w g t cs := Own.blk h.fa (List.mem_cons_of_mem _ (List.mem_cons_of_mem _ (List.mem_cons_of_mem _ (List.mem_append_right _ (List.mem_append_right _ hx)))))
theorem rdef_bothX (h : BothX W w fb mb rb vN vA D L X) (hG : GoodF L) (n : ByteArray) (a : Att) (hs : n.size < 9223372036854775807) (hs2 : a.inh.size < 9223372036854775807) :
    Calls Try.prog 20 #[.pointer (some ⟨rb, 0, none⟩), .string n, a.val] w fun e w' => e = .returned (.int .i64 (defE L n a)) ∧ ∃ vN' vA' L', BothX W w' fb mb rb vN' vA' D L' X ∧ RDef L n a L' := by
  have h1 := h.rf
  obtain ⟨A, c, rfl, _⟩ := h1.slN.form
  obtain ⟨B, d, rfl, _⟩ := h1.slA.form
  rw [show (L.map (·.1)).length = L.length from List.length_map ..] at h1
  rw [show (L.map (·.2)).length = L.length from List.length_map ..] at h1
  refine (rdefine_any h1 hG n a hs hs2).mono ?_
  rintro e w' ⟨rfl, vN', vA', L', h2, h3⟩
  exact ⟨rfl, vN', vA', L', h2.bothX, h3⟩
theorem rdrop_bothX (h : BothX W w fb mb rb vN vA D L X) (hG : GoodF L) (n : ByteArray) :
    Calls Try.prog 22 #[.pointer (some ⟨rb, 0, none⟩), .string n] w fun e w' => e = .returned (.int .i64 (dropE L n)) ∧ ∃ vN' vA', BothX W w' fb mb rb vN' vA' D (dropN L n) X := by
  have h1 := h.rf
  obtain ⟨A, c, rfl, _⟩ := h1.slN.form
  obtain ⟨B, d, rfl, _⟩ := h1.slA.form
  rw [show (L.map (·.1)).length = L.length from List.length_map ..] at h1
  rw [show (L.map (·.2)).length = L.length from List.length_map ..] at h1
  refine (rdrop_any h1 hG n).mono ?_
  rintro e w' ⟨rfl, vN', vA', h2⟩
  exact ⟨rfl, vN', vA', h2.bothX⟩
theorem fdef_bothX (h : BothX W w fb mb rb vN vA D L X) (hC : Chained D) (n : ByteArray) (a : Att) (hs : n.size < 9223372036854775807) (hs2 : a.inh.size < 9223372036854775807) :
    Calls Try.prog 19 #[.pointer (some ⟨fb, 0, none⟩), .string n, a.val] w fun e w' => e = .returned (.int .i64 (defE D n a)) ∧ BothX W w' fb mb rb vN vA (defN D n a) L X := by
  refine (define_any h.fa hC n a hs hs2).mono ?_
  rintro e w' ⟨rfl, h2⟩
  exact ⟨rfl, h2, h.okN, h.okA⟩
theorem fdrop_bothX (h : BothX W w fb mb rb vN vA D L X) (hd : (look D dflt).isSome = true) (n : ByteArray) :
    Calls Try.prog 21 #[.pointer (some ⟨fb, 0, none⟩), .string n] w fun e w' => e = .returned (.int .i64 (dropE D n)) ∧ BothX W w' fb mb rb vN vA (dropN D n) L X := by
  refine (drop_total h.fa hd n).mono ?_
  rintro e w' ⟨rfl, h2⟩
  exact ⟨rfl, h2, h.okN, h.okA⟩
/-- Copy, and Define on the old ones. -/
structure OldX (W w : World) (fo mo fb mb rb : Nat) (vN vA : Value) (E D L : Fm) (X : Heap) : Prop where
  old : FaAt W w fo mo E (facHeapX fb mb D (refHeapX rb vN (L.map (·.1)) vA (L.map (·.2)) X))
  okN : RowOk vN (L.map (·.1)).length
  okA : RowOk vA (L.map (·.2)).length
theorem copy_bothX (h : BothX W w fb mb rb vN vA D L X) : Calls Try.prog 32 #[.pointer (some ⟨fb, 0, none⟩)] w fun e w' => ∃ fb' mb', e = .returned (.pointer (some ⟨fb', 0, none⟩)) ∧ OldX W w' fb mb fb' mb' rb vN vA D D L X := by
  refine (copy_any h.fa).mono ?_
  rintro e w' ⟨fb', mb', rfl, h2⟩
  refine ⟨fb', mb', rfl, Own.perm h2 ?_, h.okN, h.okA⟩
  exact (List.perm_append_comm (l₁ := [(fb', Ast.cells 60 #[.map (some mb')]), (mb', Ast.map (facePairs D))]) (l₂ := [(fb, Ast.cells 60 #[.map (some mb)]), (mb, Ast.map (facePairs D))])).append_right _
theorem odef_oldX {fo mo : Nat} {E : Fm} (h : OldX W w fo mo fb mb rb vN vA E D L X) (hC : Chained E) (n : ByteArray) (a : Att) (hs : n.size < 9223372036854775807) (hs2 : a.inh.size < 9223372036854775807) :
    Calls Try.prog 19 #[.pointer (some ⟨fo, 0, none⟩), .string n, a.val] w fun e w' => e = .returned (.int .i64 (defE E n a)) ∧ OldX W w' fo mo fb mb rb vN vA (defN E n a) D L X := by
  refine (define_any h.old hC n a hs hs2).mono ?_
  rintro e w' ⟨rfl, h2⟩
  exact ⟨rfl, h2, h.okN, h.okA⟩
theorem OldX.both {fo mo : Nat} {E : Fm} (h : OldX W w fo mo fb mb rb vN vA E D L X) : BothX W w fb mb rb vN vA D L X := ⟨Own.tail (Own.tail h.old), h.okN, h.okA⟩
theorem bothX_new (h : RfAt W w rb vN [dflt] vA [attZero] (facHeapX fb mb [(dflt, attZero)] [])) : BothX W w fb mb rb vN vA [(dflt, attZero)] [(dflt, attZero)] [] := RfAt.bothX (L := [(dflt, attZero)]) h
end
end Go.Proofs.Ytmjogpacajbngaa
