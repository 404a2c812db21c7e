/- The variables as a state: entries with their cells' blocks, scopes, marks, bindings; and what lies in memory. No condition but those written. -/
import Derived.Test.YtempnakdpmmmoaaOwn
namespace Go.Proofs.Ytempnakdpmmmoaa
open Go.RowKit

/-- The kind of a block: the type of its cells, or none. -/
def kindO : Obj → Option TypeId
  | .cells _ t _ => some t
  | _ => none
def Ast.kind : Ast → Option TypeId
  | .cells t _ => some t
  | .map _ => none
  | .row T _ _ _ _ => some T
  | .obj o => kindO o
theorem Holds.kind {w : World} {g : Nat} {a b : Ast} (ha : Holds w g a) (hb : Holds w g b) : a.kind = b.kind := by
  have hk : ∀ {c : Ast}, Holds w g c → ∃ o, w.heap[g]? = some o ∧ c.kind = kindO o := by
    intro c hc
    cases c with
    | cells t cs => exact ⟨_, hc, rfl⟩
    | map m =>
      obtain ⟨es, cl, h, _⟩ := hc.holds
      exact ⟨_, h, rfl⟩
    | row T k v n xs =>
      obtain ⟨h1, h2⟩ := hc
      rcases h2.2 with ⟨rfl, _⟩ | ⟨g', off, cap, cs, rfl, hh, _⟩
      · simp [Value.ownBlock] at h1
      · simp [Value.ownBlock] at h1
        subst h1
        exact ⟨_, hh, rfl⟩
    | obj o => exact ⟨_, hc, rfl⟩
  obtain ⟨o, h1, h2⟩ := hk ha
  obtain ⟨o', h3, h4⟩ := hk hb
  rw [h1] at h3
  cases h3
  rw [h2, h4]
theorem Own.kind_ne {W w : World} {L : Heap} {g g' : Nat} {a b : Ast} (h : Own W w L) (ha : (g, a) ∈ L) (hb : (g', b) ∈ L) (hk : a.kind ≠ b.kind) : g ≠ g' := by
  rintro rfl
  exact hk (Holds.kind (h.all _ ha).1 (h.all _ hb).1)
theorem Own.absent {W w : World} {L M : Heap} {g : Nat} {a : Ast} (h : Own W w L) (ha : (g, a) ∈ L) (hM : ∀ x ∈ M, x ∈ L ∧ a.kind ≠ x.2.kind) : g ∉ Heap.blocks M := fun hm => by
  obtain ⟨x, hx, e⟩ := List.mem_map.1 hm
  exact h.kind_ne ha (hM x hx).1 (hM x hx).2 e.symm

structure Cel where
  k : Int
  n : Int
  b : Bool
def Cel.zero : Cel := ⟨0, 0, false⟩
def Cel.cells (c : Cel) : List Value := [.int .i64 c.k, .int .i64 c.n, .bool c.b]
structure Ent where
  n : Int
  g : Nat
  c : Cel
structure Loc where
  k : Int
  g : Nat
  es : List Ent
structure Nte where
  c : Cel
  n : Int
  s : Int
  g1 : Nat
  g2 : Nat
structure Vst where
  defs : List Ent
  locs : List Loc
  marks : List (Int × Bool)
  notes : List Nte
  scope : Int

abbrev ptr (g : Nat) : Value := .pointer (some ⟨g, 0, none⟩)
def entPairs (l : List Ent) : List (Value × Value) := l.map fun e => (.int .i64 e.n, ptr e.g)
def locPairs (l : List Loc) : List (Value × Value) := l.map fun x => (.int .i64 x.k, .map (some x.g))
def markV (c : Bool) : Value := .int .u8 (if c then 3 else 1)
def markPairs (l : List (Int × Bool)) : List (Value × Value) := l.map fun x => (.int .i64 x.1, markV x.2)
def backFn (x : Nte) : Value := .func (.func 36) #[] #[ptr x.g1, ptr x.g2]
def Nte.cells (x : Nte) : List Value := [.int .i64 x.c.k, .int .i64 x.c.n, .bool x.c.b, .int .i64 x.n, .int .i64 x.s, backFn x]
theorem nte_len (x : Nte) : x.cells.length = 6 := rfl
theorem nte_one (x : Nte) : ∀ u ∈ x.cells, u.oneCell' = true := by
  intro u hu
  simp [Nte.cells] at hu
  rcases hu with rfl | rfl | rfl | rfl | rfl | rfl <;> rfl

def celA (c : Cel) : Ast := .cells 60 c.cells.toArray
def entHeap (l : List Ent) : Heap := l.map fun e => (e.g, celA e.c)
def locHeap (l : List Loc) : Heap := l.flatMap fun x => (x.g, .map (entPairs x.es)) :: entHeap x.es
def noteHeap (l : List Nte) : Heap := l.flatMap fun x => [(x.g1, .cells 3 #[.int .i64 x.s]), (x.g2, .cells 3 #[.int .i64 x.n])]
/-- The blocks of the struct: itself and its three maps. -/
structure Vb where
  vb : Nat
  db : Nat
  lb : Nat
  mb : Nat
  nv : Value
def Vb.head (b : Vb) (s : Vst) : Heap :=
  [(b.vb, .cells 57 #[.map (some b.db), .map (some b.lb), .map (some b.mb), b.nv, .int .i64 s.scope]), (b.db, .map (entPairs s.defs)), (b.lb, .map (locPairs s.locs)), (b.mb, .map (markPairs s.marks))]
def noteRow (b : Vb) (s : Vst) : Heap := rowOf 64 6 b.nv s.notes.length (rows Nte.cells s.notes)
def Vst.heap (s : Vst) (b : Vb) : Heap := b.head s ++ (entHeap s.defs ++ (locHeap s.locs ++ (noteHeap s.notes ++ noteRow b s)))

/-- The variables lie in memory as s says, beside R. -/
structure VarsAt (W w : World) (b : Vb) (s : Vst) (R : Heap) : Prop where
  own : Own W w (s.heap b ++ R)
  sl : Sl w 64 6 b.nv s.notes.length (rows Nte.cells s.notes)

section
variable {W w w' : World} {b : Vb} {s : Vst} {R : Heap}
theorem VarsAt.re (h : VarsAt W w b s R) (ho : Own W w' (s.heap b ++ R)) : VarsAt W w' b s R := by
  refine ⟨ho, ?_⟩
  cases hb : b.nv.ownBlock with
  | none =>
    have hs := h.sl
    refine hs.same fun g hg => by rw [hb] at hg; cases hg
  | some g =>
    refine (ho.row (g := g) ?_).2
    simp [Vst.heap, noteRow, rowOf_some hb]
theorem VarsAt.below (h : VarsAt W w b s R) (hb : Below w.heap.size w w') : VarsAt W w' b s R := h.re (h.own.below hb)
theorem VarsAt.drew (h : VarsAt W w b s R) : VarsAt W w.drew b s R := h.re h.own.drew
theorem VarsAt.drewN (h : VarsAt W w b s R) (n : Nat) : VarsAt W (w.drewN n) b s R := h.re (h.own.drewN n)
theorem VarsAt.skip (h : VarsAt W w b s R) (o : Obj) : VarsAt W (w.alloc o) b s R := h.re (h.own.skip o)
theorem VarsAt.box (h : VarsAt W w b s R) (t : TypeId) (cs : Array Value) : VarsAt W (w.alloc (.cells cs t)) b s ((w.heap.size, .cells t cs) :: R) :=
  ⟨(h.own.newCells t cs).perm List.perm_middle.symm, h.sl.alloc _⟩
theorem VarsAt.sub {R' : Heap} (h : VarsAt W w b s R) (hs : R'.Sublist R) : VarsAt W w b s R' := ⟨h.own.sub (List.Sublist.append (List.Sublist.refl _) hs), h.sl⟩
theorem VarsAt.drop {x : Nat × Ast} (h : VarsAt W w b s (x :: R)) : VarsAt W w b s R := h.sub (List.sublist_cons_self ..)
theorem VarsAt.perm {R' : Heap} (h : VarsAt W w b s R) (hs : R.Perm R') : VarsAt W w b s R' := ⟨h.own.perm (List.Perm.append_left _ hs), h.sl⟩
theorem VarsAt.vb (h : VarsAt W w b s R) : Blk w b.vb 57 #[.map (some b.db), .map (some b.lb), .map (some b.mb), b.nv, .int .i64 s.scope] := h.own.blk (by simp [Vst.heap, Vb.head])
theorem VarsAt.db (h : VarsAt W w b s R) : MapIs w b.db (entPairs s.defs) := h.own.mapIs (by simp [Vst.heap, Vb.head])
theorem VarsAt.lb (h : VarsAt W w b s R) : MapIs w b.lb (locPairs s.locs) := h.own.mapIs (by simp [Vst.heap, Vb.head])
theorem VarsAt.mb (h : VarsAt W w b s R) : MapIs w b.mb (markPairs s.marks) := h.own.mapIs (by simp [Vst.heap, Vb.head])
theorem VarsAt.def_ (h : VarsAt W w b s R) {e : Ent} (he : e ∈ s.defs) : Blk w e.g 60 e.c.cells.toArray :=
  h.own.blk (List.mem_append_left _ (List.mem_append_right _ (List.mem_append_left _ (List.mem_map.2 ⟨e, he, rfl⟩))))
theorem VarsAt.loc (h : VarsAt W w b s R) {x : Loc} (hx : x ∈ s.locs) : MapIs w x.g (entPairs x.es) :=
  h.own.mapIs (List.mem_append_left _ (List.mem_append_right _ (List.mem_append_right _ (List.mem_append_left _ (List.mem_flatMap.2 ⟨x, hx, List.mem_cons_self ..⟩)))))
theorem VarsAt.ent (h : VarsAt W w b s R) {x : Loc} (hx : x ∈ s.locs) {e : Ent} (he : e ∈ x.es) : Blk w e.g 60 e.c.cells.toArray :=
  h.own.blk (List.mem_append_left _ (List.mem_append_right _ (List.mem_append_right _ (List.mem_append_left _ (List.mem_flatMap.2 ⟨x, hx, List.mem_cons_of_mem _ (List.mem_map.2 ⟨e, he, rfl⟩)⟩)))))
end

/-! ### Looking up -/
def fnd (l : List Ent) (n : Int) : Option Ent := l.find? fun e => n == e.n
def fndL (l : List Loc) (k : Int) : Option Loc := l.find? fun x => k == x.k
def fndM (l : List (Int × Bool)) (n : Int) : Option Bool := (l.find? fun x => n == x.1).map (·.2)
theorem ent_keys (l : List Ent) : KeysOf (.int .i64) (entPairs l) := fun x hx => by
  obtain ⟨e, _, rfl⟩ := List.mem_map.1 hx
  exact .int _ _
theorem loc_keys (l : List Loc) : KeysOf (.int .i64) (locPairs l) := fun x hx => by
  obtain ⟨e, _, rfl⟩ := List.mem_map.1 hx
  exact .int _ _
theorem mark_keys (l : List (Int × Bool)) : KeysOf (.int .i64) (markPairs l) := fun x hx => by
  obtain ⟨e, _, rfl⟩ := List.mem_map.1 hx
  exact .int _ _
theorem ent_get (l : List Ent) (n : Int) : mget (entPairs l) (.int .i64 n) = (fnd l n).map fun e => ptr e.g := by
  simp only [mget, entPairs, fnd, List.find?_map, Option.map_map, Function.comp_def, keyEq_int]
theorem loc_get (l : List Loc) (k : Int) : mget (locPairs l) (.int .i64 k) = (fndL l k).map fun x => Value.map (some x.g) := by
  simp only [mget, locPairs, fndL, List.find?_map, Option.map_map, Function.comp_def, keyEq_int]
theorem mark_get (l : List (Int × Bool)) (n : Int) : mget (markPairs l) (.int .i64 n) = (fndM l n).map markV := by
  simp only [mget, markPairs, fndM, List.find?_map, Option.map_map, Function.comp_def, keyEq_int]
theorem fnd_mem {l : List Ent} {n : Int} {e : Ent} (h : fnd l n = some e) : e ∈ l ∧ e.n = n := by
  refine ⟨List.mem_of_find?_eq_some h, ?_⟩
  have := List.find?_some h
  simpa using (beq_iff_eq.1 this).symm
theorem fndL_mem {l : List Loc} {n : Int} {e : Loc} (h : fndL l n = some e) : e ∈ l ∧ e.k = n := by
  refine ⟨List.mem_of_find?_eq_some h, ?_⟩
  have := List.find?_some h
  simpa using (beq_iff_eq.1 this).symm
theorem ent_put {n : Int} (g : Nat) (c : Cel) : ∀ l : List Ent, fnd l n = none → mput (entPairs l) (.int .i64 n) (ptr g) = entPairs (l ++ [⟨n, g, c⟩])
  | [], _ => rfl
  | e :: l, h => by
    simp only [fnd, List.find?_cons] at h
    split at h
    · cases h
    · next hne =>
      have ih := ent_put g c l h
      simp only [entPairs] at ih
      simp only [entPairs, List.map_cons, mput, keyEq_int, hne, List.cons_append]
      rw [ih]
      simp

/-! ### One cell turns -/
def updL (l : List Ent) (g : Nat) (c : Cel) : List Ent := l.map fun e => if e.g = g then { e with c := c } else e
def updX (l : List Loc) (g : Nat) (c : Cel) : List Loc := l.map fun x => { x with es := updL x.es g c }
def Vst.upd (s : Vst) (g : Nat) (c : Cel) : Vst := { s with defs := updL s.defs g c, locs := updX s.locs g c }
theorem updL_pairs (l : List Ent) (g : Nat) (c : Cel) : entPairs (updL l g c) = entPairs l := by
  simp only [entPairs, updL, List.map_map]
  refine List.map_congr_left fun e _ => ?_
  simp only [Function.comp]
  split <;> rfl
theorem updX_pairs (l : List Loc) (g : Nat) (c : Cel) : locPairs (updX l g c) = locPairs l := by
  simp only [locPairs, updX, List.map_map]
  rfl
theorem updL_heap (l : List Ent) (g : Nat) (c : Cel) : entHeap (updL l g c) = Heap.put (entHeap l) g (celA c) := by
  simp only [entHeap, updL, Heap.put, List.map_map]
  refine List.map_congr_left fun e _ => ?_
  simp only [Function.comp]
  split
  · next h => rw [h]
  · rfl
theorem updX_heap (g : Nat) (c : Cel) : ∀ l : List Loc, (∀ x ∈ l, x.g ≠ g) → locHeap (updX l g c) = Heap.put (locHeap l) g (celA c)
  | [], _ => rfl
  | x :: l, h => by
    have ih := updX_heap g c l fun y hy => h y (List.mem_cons_of_mem _ hy)
    have e : locHeap (x :: l) = ((x.g, .map (entPairs x.es)) :: entHeap x.es) ++ locHeap l := rfl
    have e2 : locHeap (updX (x :: l) g c) = ((x.g, .map (entPairs (updL x.es g c))) :: entHeap (updL x.es g c)) ++ locHeap (updX l g c) := rfl
    rw [e, e2, Heap.put_append, Heap.put_miss _ _ _ (h x (List.mem_cons_self ..)), updL_pairs, updL_heap, ih]
theorem updL_absent {l : List Ent} {g : Nat} {c : Cel} (h : ∀ e ∈ l, e.g ≠ g) : updL l g c = l := by
  refine (List.map_congr_left fun e he => ?_).trans (List.map_id l)
  simp [h e he]

def Vst.cellsOf (s : Vst) : Heap := entHeap s.defs ++ s.locs.flatMap fun x => entHeap x.es
section
variable {W w w' : World} {b : Vb} {s : Vst} {R : Heap} {g : Nat} {c : Cel}
theorem mem_cells (hg : (g, celA c) ∈ s.cellsOf) : (g, celA c) ∈ s.heap b ++ R := by
  refine List.mem_append_left _ (List.mem_append_right _ ?_)
  rcases List.mem_append.1 hg with hg | hg
  · exact List.mem_append_left _ hg
  · obtain ⟨x, hx, hg⟩ := List.mem_flatMap.1 hg
    exact List.mem_append_right _ (List.mem_append_left _ (List.mem_flatMap.2 ⟨x, hx, List.mem_cons_of_mem _ hg⟩))
theorem note_kind {x : Nat × Ast} (hx : x ∈ noteHeap s.notes ++ noteRow b s) : x.2.kind ≠ some 60 := by
  rcases List.mem_append.1 hx with hx | hx
  · obtain ⟨y, _, hx⟩ := List.mem_flatMap.1 hx
    simp at hx
    rcases hx with rfl | rfl <;> simp [Ast.kind]
  · unfold noteRow rowOf at hx
    split at hx
    · simp at hx
      subst hx
      simp [Ast.kind]
    · simp at hx
theorem head_kind {x : Nat × Ast} (hx : x ∈ b.head s) : x.2.kind ≠ some 60 := by
  simp [Vb.head] at hx
  rcases hx with rfl | rfl | rfl | rfl <;> simp [Ast.kind]
theorem upd_heap (h : Own W w (s.heap b ++ R)) (hg : (g, celA c) ∈ s.cellsOf) (c' : Cel) : (s.upd g c').heap b ++ R = Heap.put (s.heap b ++ R) g (celA c') := by
  have hm := mem_cells (b := b) (R := R) hg
  have h1 : g ∉ Heap.blocks (b.head s) := h.absent hm fun x hx => ⟨List.mem_append_left _ (List.mem_append_left _ hx), fun e => head_kind hx e.symm⟩
  have h2 : g ∉ Heap.blocks (noteHeap s.notes ++ noteRow b s) := h.absent hm fun x hx => ⟨List.mem_append_left _ (List.mem_append_right _ (List.mem_append_right _ (List.mem_append_right _ hx))), fun e => note_kind hx e.symm⟩
  have h3 : ∀ x ∈ s.locs, x.g ≠ g := fun x hx => (h.kind_ne hm (b := .map (entPairs x.es)) (List.mem_append_left _ (List.mem_append_right _ (List.mem_append_right _ (List.mem_append_left _ (List.mem_flatMap.2 ⟨x, hx, List.mem_cons_self ..⟩))))) (by simp [celA, Ast.kind])).symm
  have h4 : g ∉ Heap.blocks R := by
    refine nodup_sep h.nod ?_
    have := mem_cells (b := b) (R := []) hg
    rw [List.append_nil] at this
    exact mem_blocks this
  have e1 : b.head (s.upd g c') = b.head s := by
    show ([_, _, _, _] : Heap) = _
    simp only [Vst.upd, updL_pairs, updX_pairs]
    rfl
  have e2 : noteHeap (s.upd g c').notes ++ noteRow b (s.upd g c') = noteHeap s.notes ++ noteRow b s := rfl
  unfold Vst.heap
  rw [Heap.put_append, Heap.put_append, Heap.put_append, Heap.put_append, Heap.put_absent _ h1, Heap.put_absent _ h2, Heap.put_absent _ h4, e1, e2]
  rw [show entHeap (s.upd g c').defs = _ from updL_heap s.defs g c', show locHeap (s.upd g c').locs = _ from updX_heap g c' s.locs h3]
/-- A whole cell is written. -/
theorem VarsAt.store (h : VarsAt W w b s R) (hg : (g, celA c) ∈ s.cellsOf) (c' : Cel) :
    VarsAt W (((w.setCell ⟨g, 0, none⟩ (.int .i64 c'.k)).setCell ⟨g, 1, none⟩ (.int .i64 c'.n)).setCell ⟨g, 2, none⟩ (.bool c'.b)) b (s.upd g c') R := by
  have hm := mem_cells (b := b) (R := R) hg
  have h1 := h.own.putCell hm 0 (.int .i64 c'.k)
  have h2 := h1.putCell (Heap.mem_put hm) 1 (.int .i64 c'.n)
  have h3 := h2.putCell (Heap.mem_put (Heap.mem_put hm)) 2 (.bool c'.b)
  rw [Heap.put_put, Heap.put_put, show (((c.cells.toArray.setIfInBounds 0 (.int .i64 c'.k)).setIfInBounds 1 (.int .i64 c'.n)).setIfInBounds 2 (.bool c'.b)) = c'.cells.toArray from rfl, show Ast.cells 60 c'.cells.toArray = celA c' from rfl] at h3
  rw [← upd_heap h.own hg c'] at h3
  refine ⟨h3, ?_⟩
  have hn : b.nv.ownBlock ≠ some g := h.sl.ne_blk (h.own.blk hm) (by decide)
  exact ((h.sl.far (p := ⟨g, 0, none⟩) hn _).far (p := ⟨g, 1, none⟩) hn _).far (p := ⟨g, 2, none⟩) hn _
/-- A new default. -/
def Vst.addDef (s : Vst) (n : Int) (g : Nat) (c : Cel) : Vst := { s with defs := s.defs ++ [⟨n, g, c⟩] }
theorem VarsAt.addDef (h : VarsAt W w b s ((g, celA c) :: R)) {n : Int} (ho : Only (· = b.db) w w') (hm : MapIs w' b.db (entPairs (s.defs ++ [⟨n, g, c⟩]))) : VarsAt W w' b (s.addDef n g c) R := by
  have h1 := h.own
  unfold Vst.heap Vb.head at h1
  have h2 := (h1.perm (List.Perm.swap _ _ _)).turn (b := .map (entPairs (s.defs ++ [(⟨n, g, c⟩ : Ent)]))) ho hm
  have h3 : Own W w' ((s.addDef n g c).heap b ++ R) := by
    refine (h2.perm (List.Perm.swap _ _ _)).perm ?_
    unfold Vst.heap Vb.head
    refine List.Perm.cons _ (List.Perm.cons _ (List.Perm.cons _ (List.Perm.cons _ ?_)))
    show ((entHeap s.defs ++ (locHeap s.locs ++ (noteHeap s.notes ++ noteRow b s))) ++ (g, celA c) :: R).Perm ((entHeap (s.defs ++ [⟨n, g, c⟩]) ++ (locHeap s.locs ++ (noteHeap s.notes ++ noteRow b s))) ++ R)
    rw [show entHeap (s.defs ++ [⟨n, g, c⟩]) = entHeap s.defs ++ [(g, celA c)] by simp [entHeap]]
    refine List.perm_middle.trans ?_
    simp only [List.append_assoc, List.cons_append, List.nil_append]
    exact List.perm_middle.symm
  refine ⟨h3, ?_⟩
  exact h.sl.only ho fun g' hg' e => h.sl.ne_map h.db (by rw [hg', e])
end
end Go.Proofs.Ytempnakdpmmmoaa
