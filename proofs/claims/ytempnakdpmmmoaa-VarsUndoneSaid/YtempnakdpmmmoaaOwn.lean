/- A list of blocks that a call has made, and what each holds: the steps of a walk on it. No condition but those written. -/
import Derived.Test.YtempnakdpmmmoaaMore
import Derived.Deep.RegionLaw
namespace Go.Proofs.Ytempnakdpmmmoaa
open Go.RowKit

/-- What a block holds: cells; a map's pairs; the row of a slice; another object. -/
inductive Ast where
  | cells (t : TypeId) (cs : Array Value)
  | map (m : List (Value × Value))
  | row (T : TypeId) (k : Nat) (v : Value) (n : Nat) (xs : List Value)
  | obj (o : Obj)

def Holds (w : World) (g : Nat) : Ast → Prop
  | .cells t cs => Blk w g t cs
  | .map m => MapIs w g m
  | .row T k v n xs => v.ownBlock = some g ∧ Sl w T k v n xs
  | .obj o => w.heap[g]? = some o

theorem Holds.lt {w : World} {g : Nat} : ∀ {a : Ast}, Holds w g a → g < w.heap.size
  | .cells _ _, h => Blk.lt h
  | .map _, h => MapIs.lt h
  | .row _ _ _ _ _, h => h.2.lt g h.1
  | .obj _, h => lt_of_heap h
theorem Holds.same {w w' : World} {g : Nat} (hb : w'.heap[g]? = w.heap[g]?) : ∀ {a : Ast}, Holds w g a → Holds w' g a
  | .cells _ _, h => Blk.same h hb
  | .map _, h => MapIs.same h hb
  | .row _ _ _ _ _, h => ⟨h.1, h.2.same fun g' hg' => by rw [h.1] at hg'; cases hg'; exact hb⟩
  | .obj _, h => hb.trans h

abbrev Heap := List (Nat × Ast)
def Heap.blocks (L : Heap) : List Nat := L.map (·.1)

/-- The blocks of L are the call's own (W: where the call began), no two are one, and each holds what L says. -/
structure Own (W w : World) (L : Heap) : Prop where
  bel : Below W.heap.size W w
  nod : (Heap.blocks L).Nodup
  all : ∀ x ∈ L, Holds w x.1 x.2 ∧ W.heap.size ≤ x.1

theorem Heap.blocks_append (L M : Heap) : Heap.blocks (L ++ M) = Heap.blocks L ++ Heap.blocks M := by simp [Heap.blocks]
theorem Heap.blocks_cons (x : Nat × Ast) (M : Heap) : Heap.blocks (x :: M) = x.1 :: Heap.blocks M := by simp [Heap.blocks]

section
variable {W w w' : World} {L R : Heap} {g : Nat} {a : Ast}
theorem Own.refl (W : World) : Own W W [] := ⟨Below.refl _ _, by simp [Heap.blocks], fun x hx => by simp at hx⟩
theorem Own.perm (h : Own W w L) (hp : L.Perm R) : Own W w R :=
  ⟨h.bel, (show (Heap.blocks L).Perm (Heap.blocks R) from hp.map _).nodup_iff.1 h.nod, fun x hx => h.all x (hp.mem_iff.2 hx)⟩
theorem Own.sub (h : Own W w L) (hs : R.Sublist L) : Own W w R :=
  ⟨h.bel, (show (Heap.blocks R).Sublist (Heap.blocks L) from hs.map _).nodup h.nod, fun x hx => h.all x (hs.subset hx)⟩
theorem Own.left (h : Own W w (L ++ R)) : Own W w L := h.sub (List.sublist_append_left _ _)
theorem Own.right (h : Own W w (L ++ R)) : Own W w R := h.sub (List.sublist_append_right _ _)
theorem Own.tail {x : Nat × Ast} (h : Own W w (x :: L)) : Own W w L := h.sub (List.sublist_cons_self _ _)
theorem Own.lt (h : Own W w L) (hx : (g, a) ∈ L) : g < w.heap.size := (h.all _ hx).1.lt
theorem Own.ge (h : Own W w L) (hx : (g, a) ∈ L) : W.heap.size ≤ g := (h.all _ hx).2
theorem Own.blk {t : TypeId} {cs : Array Value} (h : Own W w L) (hx : (g, Ast.cells t cs) ∈ L) : Blk w g t cs := (h.all _ hx).1
theorem Own.mapIs {m : List (Value × Value)} (h : Own W w L) (hx : (g, Ast.map m) ∈ L) : MapIs w g m := (h.all _ hx).1
theorem Own.row {T : TypeId} {k n : Nat} {v : Value} {xs : List Value} (h : Own W w L) (hx : (g, Ast.row T k v n xs) ∈ L) : v.ownBlock = some g ∧ Sl w T k v n xs := (h.all _ hx).1
/-- What is only made changes nothing. -/
theorem Own.below (h : Own W w L) (hb : Below w.heap.size w w') : Own W w' L :=
  ⟨h.bel.trans (hb.mono h.bel.size), h.nod, fun x hx => ⟨(h.all x hx).1.same (hb.block _ (h.lt hx)), (h.all x hx).2⟩⟩
theorem Own.drew (h : Own W w L) : Own W w.drew L := h.below (Below.refl _ _).drew
theorem Own.drewN (h : Own W w L) (n : Nat) : Own W (w.drewN n) L := h.below ⟨rfl, rfl, rfl, Nat.le_refl _, fun _ _ => rfl⟩
theorem Own.skip (h : Own W w L) (o : Obj) : Own W (w.alloc o) L := h.below ((Below.refl _ _).alloc (Nat.le_refl _) _)
/-- A new block joins. -/
theorem Own.join (h : Own W w L) (hn : g ∉ Heap.blocks L) (hg : W.heap.size ≤ g) (ha : Holds w g a) : Own W w ((g, a) :: L) :=
  ⟨h.bel, by rw [Heap.blocks_cons]; exact List.nodup_cons.2 ⟨hn, h.nod⟩, fun x hx => by
    rcases List.mem_cons.1 hx with rfl | hx
    · exact ⟨ha, hg⟩
    · exact h.all x hx⟩
theorem Own.not_in (h : Own W w L) (hg : w.heap.size ≤ g) : g ∉ Heap.blocks L := fun hm => by
  obtain ⟨x, hx, rfl⟩ := List.mem_map.1 hm
  have := h.lt (g := x.1) (a := x.2) hx
  omega
theorem Own.new (h : Own W w L) (o : Obj) (ha : Holds (w.alloc o) w.heap.size a) : Own W (w.alloc o) ((w.heap.size, a) :: L) :=
  (h.skip o).join (h.not_in (Nat.le_refl _)) h.bel.size ha
theorem Own.newCells (h : Own W w L) (t : TypeId) (cs : Array Value) : Own W (w.alloc (.cells cs t)) ((w.heap.size, .cells t cs) :: L) := h.new _ (Blk.new w t cs)
theorem Own.newMap (h : Own W w L) : Own W (w.alloc (.map #[] 0)) ((w.heap.size, .map []) :: L) := h.new _ (MapIs.new w)
/-- One block turns. -/
theorem Own.turn {b : Ast} (h : Own W w ((g, a) :: L)) (ho : Only (· = g) w w') (hb : Holds w' g b) : Own W w' ((g, b) :: L) := by
  have hg := h.ge (List.mem_cons_self ..)
  have hn := h.nod
  rw [Heap.blocks_cons] at hn
  refine ⟨h.bel.trans (ho.below h.bel.size fun i hi => by rw [hi]; exact hg), by rw [Heap.blocks_cons]; exact hn, fun x hx => ?_⟩
  rcases List.mem_cons.1 hx with rfl | hx
  · exact ⟨hb, hg⟩
  · have hx' := h.all x (List.mem_cons_of_mem _ hx)
    refine ⟨hx'.1.same (ho.block _ hx'.1.lt fun e => ?_), hx'.2⟩
    exact (List.nodup_cons.1 hn).1 (by rw [← e]; exact List.mem_map.2 ⟨x, hx, rfl⟩)
theorem Own.setCell {t : TypeId} {cs : Array Value} (h : Own W w ((g, .cells t cs) :: L)) (i : Nat) (u : Value) : Own W (w.setCell ⟨g, i, none⟩ u) ((g, .cells t (cs.setIfInBounds i u)) :: L) :=
  h.turn ((Only.refl (· = g) w).setCell (p := ⟨g, i, none⟩) (.inl rfl) u) ((h.blk (List.mem_cons_self ..)).set_ i u)
theorem Own.setRow {T : TypeId} {k n off c : Nat} {xs : List Value} (h : Own W w ((g, .row T k (.slice (some ⟨g, off, none⟩) n c) n xs) :: L)) (j : Nat) (hj : j < xs.length) (u : Value) :
    Own W (w.setCell ⟨g, off + j, none⟩ u) ((g, .row T k (.slice (some ⟨g, off, none⟩) n c) n (xs.set j u)) :: L) :=
  h.turn ((Only.refl (· = g) w).setCell (p := ⟨g, off + j, none⟩) (.inl rfl) u) ⟨rfl, (h.row (List.mem_cons_self ..)).2.set j hj u⟩

/-- The block of a slice, if it has one. -/
def rowOf (T : TypeId) (k : Nat) (v : Value) (n : Nat) (xs : List Value) : Heap := match v.ownBlock with
  | some g => [(g, .row T k v n xs)]
  | none => []
theorem rowOf_some {T : TypeId} {k n : Nat} {v : Value} {xs : List Value} (h : v.ownBlock = some g) : rowOf T k v n xs = [(g, .row T k v n xs)] := by simp [rowOf, h]
theorem rowOf_none {T : TypeId} {k n : Nat} {v : Value} {xs : List Value} (h : v.ownBlock = none) : rowOf T k v n xs = [] := by simp [rowOf, h]
theorem rowOf_nil (T : TypeId) (k n : Nat) (xs : List Value) : rowOf T k (.slice none 0 0) n xs = [] := rfl
theorem Own.sl {T : TypeId} {k n g' : Nat} {v : Value} {xs : List Value} (h : Own W w L) (hx : (g', Ast.row T k v n xs) ∈ L) : Sl w T k v n xs := (h.row hx).2
/-- What append leaves: the row where it was, or a new one. -/
theorem Own.appended {T : TypeId} {k n n' : Nat} {v v' : Value} {xs xs' : List Value} (h : Own W w (rowOf T k v n xs ++ L)) (hs : Sl w' T k v' n' xs') (ho : Only (fun b => v.ownBlock = some b) w w')
    (hv : v'.ownBlock = v.ownBlock ∨ v'.ownBlock = some w.heap.size) : Own W w' (rowOf T k v' n' xs' ++ L) := by
  cases hb : v.ownBlock with
  | none =>
    rw [rowOf_none hb] at h
    have hbel : Below w.heap.size w w' := (ho.mono (G := fun _ => False) fun i _ hi => by rw [hb] at hi; cases hi).below_none
    have h2 : Own W w' L := h.below hbel
    rcases hv with hv | hv
    · rw [rowOf_none (hv.trans hb)]
      exact h2
    · rw [rowOf_some hv]
      exact h2.join (h.not_in (Nat.le_refl _)) h.bel.size ⟨hv, hs⟩
  | some g =>
    rw [rowOf_some hb] at h
    have ho2 : Only (· = g) w w' := ho.mono fun i _ hi => by rw [hb] at hi; cases hi; rfl
    rcases hv with hv | hv
    · rw [rowOf_some (hv.trans hb)]
      exact h.turn ho2 ⟨hv.trans hb, hs⟩
    · rw [rowOf_some hv]
      have hg := h.ge (List.mem_cons_self ..)
      have hgl := h.lt (List.mem_cons_self ..)
      have hn := h.nod
      rw [List.singleton_append, Heap.blocks_cons] at hn
      have h2 : Own W w' L := ⟨h.bel.trans (ho2.below h.bel.size fun i hi => by rw [hi]; exact hg), (List.nodup_cons.1 hn).2, fun x hx => by
        have hx' := h.all x (List.mem_append_right _ hx)
        exact ⟨hx'.1.same (ho2.block _ hx'.1.lt fun e => (List.nodup_cons.1 hn).1 (by rw [← e]; exact List.mem_map.2 ⟨x, hx, rfl⟩)), hx'.2⟩⟩
      exact h2.join (h.right.not_in (Nat.le_refl _)) h.bel.size ⟨hv, hs⟩

/-- The list with another content of block g. -/
def Heap.put (L : Heap) (g : Nat) (a : Ast) : Heap := L.map fun x => if x.1 = g then (g, a) else x
theorem Heap.put_append (L M : Heap) (g : Nat) (a : Ast) : Heap.put (L ++ M) g a = Heap.put L g a ++ Heap.put M g a := by simp [Heap.put]
theorem Heap.put_cons (x : Nat × Ast) (M : Heap) (g : Nat) (a : Ast) : Heap.put (x :: M) g a = (if x.1 = g then (g, a) else x) :: Heap.put M g a := by simp [Heap.put]
theorem Heap.put_hit (b : Ast) (M : Heap) (g : Nat) (a : Ast) : Heap.put ((g, b) :: M) g a = (g, a) :: Heap.put M g a := by simp [Heap.put]
theorem Heap.put_miss {k : Nat} (b : Ast) (M : Heap) {g : Nat} (a : Ast) (h : k ≠ g) : Heap.put ((k, b) :: M) g a = (k, b) :: Heap.put M g a := by simp [Heap.put, h]
theorem Heap.put_absent {L : Heap} {g : Nat} (a : Ast) (h : g ∉ Heap.blocks L) : Heap.put L g a = L := by
  refine (List.map_congr_left fun x hx => ?_).trans (List.map_id L)
  have : x.1 ≠ g := fun e => h (List.mem_map.2 ⟨x, hx, e⟩)
  simp [this]
theorem Heap.blocks_put (L : Heap) (g : Nat) (a : Ast) : Heap.blocks (Heap.put L g a) = Heap.blocks L := by
  simp only [Heap.blocks, Heap.put, List.map_map]
  refine List.map_congr_left fun x _ => ?_
  simp only [Function.comp]
  split
  · next h => exact h.symm
  · rfl
theorem Own.put {b : Ast} (h : Own W w L) (hm : g ∈ Heap.blocks L) (ho : Only (· = g) w w') (hb : Holds w' g b) : Own W w' (Heap.put L g b) := by
  have hge : W.heap.size ≤ g := by
    obtain ⟨x, hx, rfl⟩ := List.mem_map.1 hm
    exact (h.all x hx).2
  refine ⟨h.bel.trans (ho.below h.bel.size fun i hi => by rw [hi]; exact hge), by rw [Heap.blocks_put]; exact h.nod, fun x hx => ?_⟩
  obtain ⟨y, hy, rfl⟩ := List.mem_map.1 hx
  split
  · exact ⟨hb, hge⟩
  · next hne =>
    have hy' := h.all y hy
    exact ⟨hy'.1.same (ho.block _ hy'.1.lt hne), hy'.2⟩
theorem Own.putCell {t : TypeId} {cs : Array Value} (h : Own W w L) (hm : (g, Ast.cells t cs) ∈ L) (i : Nat) (u : Value) : Own W (w.setCell ⟨g, i, none⟩ u) (Heap.put L g (.cells t (cs.setIfInBounds i u))) :=
  h.put (List.mem_map.2 ⟨_, hm, rfl⟩) ((Only.refl (· = g) w).setCell (p := ⟨g, i, none⟩) (.inl rfl) u) ((h.blk hm).set_ i u)
theorem Heap.mem_put {L : Heap} {g : Nat} {a b : Ast} (h : (g, b) ∈ L) : (g, a) ∈ Heap.put L g a := List.mem_map.2 ⟨_, h, by simp⟩
theorem Heap.put_put (L : Heap) (g : Nat) (a b : Ast) : Heap.put (Heap.put L g a) g b = Heap.put L g b := by
  simp only [Heap.put, List.map_map]
  refine List.map_congr_left fun x _ => ?_
  simp only [Function.comp]
  split
  · simp
  · rfl
theorem nodup_sep {A B : Heap} {g : Nat} (h : (Heap.blocks (A ++ B)).Nodup) (hg : g ∈ Heap.blocks A) : g ∉ Heap.blocks B := fun hb => by
  rw [Heap.blocks_append] at h
  exact (List.nodup_append.1 h).2.2 g hg g hb rfl
theorem nodup_sep' {A B : Heap} {g : Nat} (h : (Heap.blocks (A ++ B)).Nodup) (hg : g ∈ Heap.blocks B) : g ∉ Heap.blocks A := fun ha => nodup_sep h ha hg
theorem mem_blocks {L : Heap} {g : Nat} {a : Ast} (h : (g, a) ∈ L) : g ∈ Heap.blocks L := List.mem_map.2 ⟨_, h, rfl⟩
end
/-- append to a slice of ours, as one step of a region that draws. -/
theorem step_append_sl {P : Program} {ops : Array Oper} {o : Oper} {a : Act} {w : World} {K : Act → World → Prop} {Q : Exit → Act → World → Prop} {E : Prop} (hg : o.guard = none) (s x : Operand) (t : TypeId)
    (ho : o.op = .call { callee := .builtin .append, args := #[s, x], argTypes := #[t, t] })
    (e : TypeId) (i : TypeInfo) (z : Value) (k bytes : Nat) (ht : P.underlying t = some (.slice e)) (hi : P.info? e = some i) (hz : i.zero = some z)
    (hsize : i.size = k) (hby : i.bytes = bytes) (hzs : z.cells.size = k) (v : Value) (n : Nat) (xs : List Value) (hs : a.eval s = v) (h : Sl w e k v n xs)
    (sv : Value) (hx : a.eval x = sv) (m : Nat) (news : List Value) (hr : Rd w sv k m news) (h1 : ∀ u ∈ news, u.oneCell' = true) (h63 : n + m ≤ maxLen) (hbytes : (n + m) * bytes ≤ 140737488355328)
    (hK : ∀ v' w', Sl w' e k v' (n + m) (xs ++ news) → Only (fun b => v.ownBlock = some b) w w' → (v'.ownBlock = v.ownBlock ∨ v'.ownBlock = some w.heap.size) → K (a.put o.dst v') w') :
    if Region.wanted o (yielded ops a.tmps) = true then Oper.wp P o a w K Q else E := by
  have hw : Region.wanted o (yielded ops a.tmps) = true := by simp [Region.wanted, hg]
  rw [if_pos hw]
  obtain ⟨v', w', hrun, h2, h3, h4⟩ := run_append_sl (P := P) w t o.type e i z k bytes ht hi hz hsize hby hzs v n xs h sv m news hr h1 h63 hbytes
  unfold Oper.wp execOp
  simp only [ho, resolve, invoke, builtin, Sem.run_bind, Sem.run_pure, Result.andThen_ok, List.map_toArray, List.map_cons, List.map_nil, hs, hx, hrun]
  exact hK v' w' h2 h3 h4
end Go.Proofs.Ytempnakdpmmmoaa
