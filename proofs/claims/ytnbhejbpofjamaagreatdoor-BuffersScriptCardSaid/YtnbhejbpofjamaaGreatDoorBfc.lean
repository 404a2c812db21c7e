/- A set of buffers: Find. No condition but those written. -/
import Derived.Test.YtnbhejbpofjamaaGreatDoorBfb
import Derived.Test.YtnbhejbpofjamaaGreatDoorMr
import Derived.Lib.SlicesS
namespace Go.Proofs.YtnbhejbpofjamaaGreatDoor
open Go.RowKit

theorem wpList_range_r {P : Program} {w : World} {b : Nat} {m : List (Value × Value)} {ops : Array Oper} {rs : List Oper} {o : Oper} {a : Act} {Q : Exit → Act → World → Prop} {t k e : TypeId} (hg : o.guard = none) (x : Operand) (hop : o.op = Op.range t x) (ht : P.underlying t = some (.map k e)) (hx : a.eval x = .map (some b)) (h : MapIs w b m)
    (hK : ∀ r w', r = w.heap.size → MapRg w' b r m m → Below w.heap.size w w' → wpList P ops Q rs (a.put o.dst (.pointer (some ⟨r, 0, none⟩))) w') : wpList P ops Q (o :: rs) a w :=
  wpList_range_is hg x hop ht hx h fun w' h1 h2 => hK _ w' rfl h1 h2
theorem MapRg.next_r {P : Program} {w : World} {b r : Nat} {m : List (Value × Value)} {α : Type} (f : α → Value × Value) (L : List α) (h : MapRg w b r m (L.map f)) (ty : TypeId) :
    (Hid (L = []) ∧ (Instr.next (.pointer (some ⟨r, 0, none⟩)) false ty).run P w = .ok (.tuple #[.bool false]) w) ∨
    ∃ x w', Hid (∃ A B, L = A ++ x :: B ∧ MapRg w' b r m ((A ++ B).map f) ∧ Only (· = r) w w') ∧ (Instr.next (.pointer (some ⟨r, 0, none⟩)) false ty).run P w = .ok (.tuple #[.bool true, (f x).1, (f x).2]) w' ∧
      (Instr.entry (.pointer (some ⟨r, 0, none⟩))).run P w' = .ok (.tuple #[(f x).1, (f x).2]) w' := by
  rcases h.next (P := P) ty with ⟨h0, hrun⟩ | ⟨k, v, A, B, w', h0, hrun, hrg, ho, hen⟩
  · exact .inl ⟨hide (List.map_eq_nil_iff.1 h0), hrun⟩
  · obtain ⟨A', C, rfl, rfl, hC⟩ := List.map_eq_append_iff.1 h0
    obtain ⟨x, B', rfl, hx, rfl⟩ := List.map_eq_cons_iff.1 hC
    obtain ⟨rfl, rfl⟩ : (f x).1 = k ∧ (f x).2 = v := by rw [hx]; exact ⟨rfl, rfl⟩
    exact .inr ⟨x, w', hide ⟨A', B', rfl, by rw [List.map_append]; exact hrg, ho⟩, hrun, hen⟩
def nbP (x : Nb) : Value × Value := (.int .i64 (x.id : Int), .pointer (some ⟨x.g, 0, none⟩))
theorem nbPairs_eq (l : List Nb) : nbPairs l = l.map nbP := rfl
/-- What Find returns. -/
def FindRes (l : List Nb) (n : ByteArray) (w : World) (e : Ending) (w' : World) : Prop :=
  Below w.heap.size w w' ∧ ((e = .returned (.tuple #[.int .i64 0, .bool false]) ∧ ∀ x ∈ l, x.name ≠ n) ∨ ∃ x ∈ l, x.name = n ∧ e = .returned (.tuple #[.int .i64 (x.id : Int), .bool true]))
structure FndI (w0 wr : World) (mb r : Nat) (M L : List Nb) (n : ByteArray) : Prop where
  bel : Below w0.heap.size w0 wr
  g : MapRg wr mb r (nbPairs M) (L.map nbP)
  old : ∀ x ∈ M, x ∈ L ∨ x.name ≠ n
  sub : ∀ x ∈ L, x ∈ M
  rr : w0.heap.size ≤ r
theorem FndI.step {w0 w w' : World} {mb r : Nat} {M L A B : List Nb} {n : ByteArray} {x : Nb} (h : FndI w0 w mb r M L n) (e : L = A ++ x :: B) (hg : MapRg w' mb r (nbPairs M) ((A ++ B).map nbP)) (ho : Only (· = r) w w') :
    Below w0.heap.size w0 w' ∧ x ∈ M ∧ (A ++ B).length + 1 = L.length ∧ (x.name ≠ n → FndI w0 w' mb r M (A ++ B) n) := by
  have hr := h.rr
  have hb : Below w0.heap.size w0 w' := h.bel.trans (ho.below h.bel.size fun i e => by rw [e]; omega)
  refine ⟨hb, h.sub x (by rw [e]; simp), by rw [e]; simp; omega, fun hn => ⟨hb, hg, fun y hy => ?_, fun y hy => h.sub y (by rw [e]; simp at hy ⊢; rcases hy with hy | hy <;> simp [hy]), hr⟩⟩
  rcases h.old y hy with h1 | h1
  · rw [e] at h1
    simp only [List.mem_append, List.mem_cons] at h1
    rcases h1 with h1 | rfl | h1
    · exact .inl (List.mem_append_left _ h1)
    · exact .inr hn
    · exact .inl (List.mem_append_right _ h1)
  · exact .inr h1
section
variable {W w w' : World} {b : Bb} {s : Bst} {R : Heap}
set_option maxRecDepth 100000 in
set_option maxHeartbeats 4000000 in
theorem find_any (h : BAt W w b s R) (n : ByteArray) : Calls Tryz.prog 14 #[.pointer (some ⟨b.sb, 0, none⟩), .string n] w (FindRes s.all n w) := by
  have c0 := h.c0
  have HN := hide (bnone_any h)
  have H := hide h
  have hm := h.mb
  have HC := hide (fun (x : Nb) (hx : x ∈ s.all) (w1 : World) (hb : Below w.heap.size w w1) => (((h.nb hx).below hb (h.nb hx).lt).cell 1 : w1.cell? ⟨x.g, 1, none⟩ = _))
  clear h
  go_enter Tryz.func14, Tryz.ntmps14
  go_wp2_with (first | (go_at_call 44; refine (Calls.mono HN.out) ?_; rintro e w' ⟨rfl, rfl⟩) | (refine wpList_range_r rfl _ rfl Tryz.underlying69 rfl hm ?_; intro r w3 hr hrg hb3))
  have HI := hide (show FndI w w3 b.mb r s.all s.all n from ⟨hb3, hrg, fun x hx => .inl hx, fun x hx => hx, by omega⟩)
  clear hr hrg hb3 c0 hm
  simp only [Act.put, List.setIfInBounds_toArray, List.set_cons_succ, List.set_cons_zero]
  go_loopw [] (fun wr => ∃ L, FndI w wr b.mb r s.all L n) (fun wr => wr.rangeLeft b.mb r)
  case atStart => exact ⟨s.all, HI.out⟩
  case round =>
    obtain ⟨L, hI⟩ := hrel
    have HL := hide hI
    have hleft := hI.g.left
    clear hI
    rcases HL.out.g.next_r (P := Tryz.prog) nbP L 0 with ⟨hE, hrun⟩ | ⟨x, w4, hMx, hrun, hen⟩
    · clear hleft
      go_wp2
      go_ret2
      refine ⟨HL.out.bel, .inl ⟨rfl, fun x hx => (HL.out.old x hx).resolve_left (by rw [hE.out]; simp)⟩⟩
    · simp only [nbP] at hrun hen
      have HX := hide (show ∃ L' : List Nb, Below w.heap.size w w4 ∧ x ∈ s.all ∧ L'.length + 1 = L.length ∧ (x.name ≠ n → FndI w w4 b.mb r s.all L' n) from by
        obtain ⟨A, B, e, h1, h2⟩ := hMx.out
        exact ⟨A ++ B, HL.out.step e h1 h2⟩)
      obtain ⟨L', x1, x2, x3, x4⟩ := HX.out
      have HX1 := hide x1
      have HX2 := hide x2
      have HX3 := hide x3
      have HX4 := hide x4
      have k1 : w4.cell? ⟨x.g, 1, none⟩ = some (.string x.name) := (HC.out x x2 w4 x1).trans rfl
      clear x1 x2 x3 x4 HX hMx
      by_cases hn : x.name = n
      · have y1 : (x.name.toList == n.toList) = true := (Lib.bytes_beq_iff _ _).2 hn
        have HNN := hide hn
        clear hn
        go_wp2
        go_ret2
        exact ⟨HX1.out, .inr ⟨x, HX2.out, HNN.out, rfl⟩⟩
      · have y1 : (x.name.toList == n.toList) = false := (Lib.bytes_beq_false_iff _ _).2 hn
        have HI2 := hide (HX4.out hn)
        clear hn
        go_wp2
        go_roundw
        case rel => exact ⟨L', HI2.out⟩
        case measure =>
          have h1 := HI2.out.g.left
          rw [h1, hleft]
          simp only [List.length_map]
          have := HX3.out
          omega
end
end Go.Proofs.YtnbhejbpofjamaaGreatDoor
