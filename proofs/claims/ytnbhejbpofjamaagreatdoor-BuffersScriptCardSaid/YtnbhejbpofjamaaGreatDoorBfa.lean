/- A set of buffers as a state, and where it lies. No condition but those written. -/
import Derived.Test.YtnbhejbpofjamaaGreatDoorOwn
import Derived.Test.YtnbhejbpofjamaaGreatDoorRow
import Derived.Test.YtnbhejbpofjamaaGreatDoorBsl
import Derived.Test.YtnbhejbpofjamaaGreatDoorBfp
namespace Go.Proofs.YtnbhejbpofjamaaGreatDoor
open Go.RowKit

structure Nb where
  id : Nat
  g : Nat
  b : Nat
  name : ByteArray
structure Bst where
  all : List Nb
  order : List Nat
  cur : Nat
  next : Nat
  p : Int
  q : Int
  r : Int
structure Bb where
  sb : Nat
  mb : Nat
  ov : Value
def nbV (x : Nb) : Array Value := #[.pointer (some ⟨x.b, 0, none⟩), .string x.name]
def nbA (x : Nb) : Ast := .cells 77 (nbV x)
def nbPairs (l : List Nb) : List (Value × Value) := l.map fun x => (.int .i64 (x.id : Int), .pointer (some ⟨x.g, 0, none⟩))
def nbHeap (l : List Nb) : Heap := l.map fun x => (x.g, nbA x)
def Bst.cells (s : Bst) (b : Bb) : Array Value := #[.map (some b.mb), b.ov, .int .i64 (s.cur : Int), .int .i64 (s.next : Int), .int .i64 s.p, .int .i64 s.q, .int .i64 s.r]
def ordRow (b : Bb) (s : Bst) : Heap := rowOf 3 1 b.ov s.order.length (ints s.order)
def Bst.heap (s : Bst) (b : Bb) : Heap := (b.sb, .cells 72 (s.cells b)) :: (b.mb, .map (nbPairs s.all)) :: (nbHeap s.all ++ ordRow b s)
structure BAt (W w : World) (b : Bb) (s : Bst) (R : Heap) : Prop where
  own : Own W w (s.heap b ++ R)
  sl : IntSl w b.ov s.order

theorem nb_keys (l : List Nb) : KeysOf (.int .i64) (nbPairs l) := fun x hx => by
  obtain ⟨e, _, rfl⟩ := List.mem_map.1 hx
  exact .int _ _
def fndB (l : List Nb) (k : Int) : Option Nb := l.find? fun x => k == (x.id : Int)
theorem nb_get (l : List Nb) (k : Int) : mget (nbPairs l) (.int .i64 k) = (fndB l k).map fun x => Value.pointer (some ⟨x.g, 0, none⟩) := by
  simp only [mget, nbPairs, fndB, List.find?_map, Option.map_map, Function.comp_def, keyEq_int]
theorem fndB_mem {l : List Nb} {k : Int} {e : Nb} (h : fndB l k = some e) : e ∈ l ∧ (e.id : Int) = k := by
  refine ⟨List.mem_of_find?_eq_some h, ?_⟩
  have := List.find?_some h
  exact (beq_iff_eq.1 this).symm
theorem fndB_none {l : List Nb} {k : Int} (h : fndB l k = none) : ∀ x ∈ l, (x.id : Int) ≠ k := by
  intro x hx e
  have := List.find?_eq_none.1 h x hx
  simp [e] at this
theorem nb_put (x : Nb) : ∀ l : List Nb, fndB l (x.id : Int) = none → mput (nbPairs l) (.int .i64 (x.id : Int)) (.pointer (some ⟨x.g, 0, none⟩)) = nbPairs (l ++ [x])
  | [], _ => rfl
  | e :: l, h => by
    simp only [fndB, List.find?_cons] at h
    split at h
    · cases h
    · next hne =>
      have ih := nb_put x l h
      simp only [nbPairs] at ih
      simp only [nbPairs, List.map_cons, mput, keyEq_int, hne, List.cons_append]
      rw [ih]
      simp
def delB (l : List Nb) (k : Int) : List Nb := l.eraseP fun e => k == (e.id : Int)
theorem nb_del (k : Int) : ∀ l : List Nb, mdel (nbPairs l) (.int .i64 k) = nbPairs (delB l k)
  | [] => rfl
  | e :: l => by
    have ih := nb_del k l
    simp only [nbPairs, delB] at ih
    have e0 : keyEq (Value.int .i64 k) (Value.int .i64 (e.id : Int)) = (k == (e.id : Int)) := keyEq_int _ _ _ _
    by_cases hk : (k == (e.id : Int)) = true
    · simp only [nbPairs, delB, List.map_cons, mdel, List.eraseP_cons, e0, hk, if_true, cond_true]
    · simp only [nbPairs, delB, List.map_cons, mdel, List.eraseP_cons, e0, hk, Bool.false_eq_true, if_false, cond_false, ih]
theorem delB_sub (l : List Nb) (k : Int) : (delB l k).Sublist l := List.eraseP_sublist
section
variable {W w w' : World} {b : Bb} {s : Bst} {R : Heap}
theorem BAt.re (h : BAt W w b s R) (ho : Own W w' (s.heap b ++ R)) : BAt W w' b s R := by
  refine ⟨ho, ?_⟩
  cases hb : b.ov.ownBlock with
  | none =>
    have hs := h.sl
    refine hs.same fun g hg => by rw [hb] at hg; cases hg
  | some g =>
    refine (ho.row (g := g) ?_).2
    simp [Bst.heap, ordRow, rowOf_some hb]
theorem BAt.below (h : BAt W w b s R) (hb : Below w.heap.size w w') : BAt W w' b s R := h.re (h.own.below hb)
theorem BAt.skip (h : BAt W w b s R) (o : Obj) : BAt W (w.alloc o) b s R := h.re (h.own.skip o)
theorem BAt.sb (h : BAt W w b s R) : Blk w b.sb 72 (s.cells b) := h.own.blk (by simp [Bst.heap])
theorem BAt.mb (h : BAt W w b s R) : MapIs w b.mb (nbPairs s.all) := h.own.mapIs (by simp [Bst.heap])
theorem BAt.nb (h : BAt W w b s R) {x : Nb} (hx : x ∈ s.all) : Blk w x.g 77 (nbV x) :=
  h.own.blk (List.mem_append_left _ (List.mem_cons_of_mem _ (List.mem_cons_of_mem _ (List.mem_append_left _ (List.mem_map.2 ⟨x, hx, rfl⟩)))))
def Bst.withCur (s : Bst) (n : Nat) : Bst := { s with cur := n }
def Bst.withNext (s : Bst) (n : Nat) : Bst := { s with next := n }
def Bst.withOrder (s : Bst) (l : List Nat) : Bst := { s with order := l }
def Bst.withAll (s : Bst) (l : List Nb) : Bst := { s with all := l }
def Bb.withOv (b : Bb) (v : Value) : Bb := { b with ov := v }
theorem BAt.setCur (h : BAt W w b s R) (n : Nat) : BAt W (w.setCell ⟨b.sb, 2, none⟩ (.int .i64 (n : Int))) b (s.withCur n) R :=
  ⟨Own.setCell h.own 2 (.int .i64 (n : Int)), h.sl.far (p := ⟨b.sb, 2, none⟩) (h.sl.ne_blk h.sb (by decide)) _⟩
theorem BAt.setNext (h : BAt W w b s R) (n : Nat) : BAt W (w.setCell ⟨b.sb, 3, none⟩ (.int .i64 (n : Int))) b (s.withNext n) R :=
  ⟨Own.setCell h.own 3 (.int .i64 (n : Int)), h.sl.far (p := ⟨b.sb, 3, none⟩) (h.sl.ne_blk h.sb (by decide)) _⟩
theorem perm_ord (a m : Nat × Ast) (N O R : Heap) : (a :: m :: (N ++ O) ++ R).Perm (O ++ (a :: m :: (N ++ R))) := by
  simp only [List.cons_append, List.append_assoc]
  refine (((List.perm_append_comm_assoc N O R).cons m).cons a).trans ?_
  refine (List.Perm.cons a List.perm_middle.symm).trans ?_
  exact List.perm_middle.symm
/-- The order turns. -/
theorem BAt.reorder (h : BAt W w b s R) {v' : Value} {L : List Nat} (hs : IntSl w' v' L) (ho : Only (fun i => b.ov.ownBlock = some i) w w') (hv : v'.ownBlock = b.ov.ownBlock ∨ v'.ownBlock = some w.heap.size) :
    Blk w' b.sb 72 (s.cells b) ∧ BAt W (w'.setCell ⟨b.sb, 1, none⟩ v') (b.withOv v') (s.withOrder L) R := by
  have h1 := h.own.perm (perm_ord _ _ _ _ _)
  have h2 := h1.appended (n' := L.length) (xs' := ints L) hs ho hv
  have h3 : Own W w' ((b.sb, .cells 72 (s.cells b)) :: (b.mb, .map (nbPairs s.all)) :: (nbHeap s.all ++ rowOf 3 1 v' L.length (ints L)) ++ R) := h2.perm (perm_ord _ _ _ _ _).symm
  refine ⟨h3.blk (List.mem_cons_self ..), ?_, ?_⟩
  · exact Own.setCell h3 1 v'
  · exact hs.far (p := ⟨b.sb, 1, none⟩) (hs.ne_blk (h3.blk (List.mem_cons_self ..)) (by decide)) _
/-- A buffer joins. -/
theorem BAt.addNb {x : Nb} (h : BAt W w b s ((x.g, nbA x) :: R)) (ho : Only (· = b.mb) w w') (hm : MapIs w' b.mb (nbPairs (s.all ++ [x]))) : BAt W w' b (s.withAll (s.all ++ [x])) R := by
  have h1 : Own W w ((b.mb, .map (nbPairs s.all)) :: (b.sb, .cells 72 (s.cells b)) :: ((nbHeap s.all ++ ordRow b s) ++ (x.g, nbA x) :: R)) := h.own.perm (List.Perm.swap _ _ _)
  have h2 := h1.turn (b := .map (nbPairs (s.all ++ [x]))) ho hm
  have h3 : Own W w' ((s.withAll (s.all ++ [x])).heap b ++ R) := by
    refine (h2.perm (List.Perm.swap _ _ _)).perm ?_
    show ((b.sb, Ast.cells 72 (s.cells b)) :: (b.mb, .map (nbPairs (s.all ++ [x]))) :: ((nbHeap s.all ++ ordRow b s) ++ (x.g, nbA x) :: R)).Perm ((b.sb, Ast.cells 72 (s.cells b)) :: (b.mb, .map (nbPairs (s.all ++ [x]))) :: ((nbHeap (s.all ++ [x]) ++ ordRow b s) ++ R))
    refine List.Perm.cons _ (List.Perm.cons _ ?_)
    rw [show nbHeap (s.all ++ [x]) = nbHeap s.all ++ [(x.g, nbA x)] by simp [nbHeap]]
    simp only [List.append_assoc, List.cons_append, List.nil_append]
    exact List.Perm.append_left _ List.perm_middle
  refine ⟨h3, ?_⟩
  exact h.sl.only ho fun g' hg' e => h.sl.ne_map h.mb (by rw [hg', e])
/-- Buffers leave. -/
theorem BAt.delNb {l : List Nb} (h : BAt W w b s R) (hl : l.Sublist s.all) (ho : Only (· = b.mb) w w') (hm : MapIs w' b.mb (nbPairs l)) : BAt W w' b (s.withAll l) R := by
  have h1 : Own W w ((b.mb, .map (nbPairs s.all)) :: (b.sb, .cells 72 (s.cells b)) :: ((nbHeap s.all ++ ordRow b s) ++ R)) := h.own.perm (List.Perm.swap _ _ _)
  have h2 := h1.turn (b := .map (nbPairs l)) ho hm
  have h3 : Own W w' ((s.withAll l).heap b ++ R) := by
    refine (h2.perm (List.Perm.swap _ _ _)).sub ?_
    refine List.Sublist.cons_cons _ (List.Sublist.cons_cons _ (List.Sublist.append ?_ (List.Sublist.refl _)))
    exact List.Sublist.append (List.Sublist.map _ hl) (List.Sublist.refl _)
  refine ⟨h3, ?_⟩
  exact h.sl.only ho fun g' hg' e => h.sl.ne_map h.mb (by rw [hg', e])
end
end Go.Proofs.YtnbhejbpofjamaaGreatDoor
