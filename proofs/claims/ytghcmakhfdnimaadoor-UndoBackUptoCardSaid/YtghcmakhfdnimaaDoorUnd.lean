/- The undo log as a state, and what lies in memory. No condition but those written. -/
import Derived.Test.YtghcmakhfdnimaaDoorRunes
import Derived.Test.YtghcmakhfdnimaaDoorChg
namespace Go.Proofs.YtghcmakhfdnimaaDoor
open Go.RowKit

/-- A slice without a block of its own is nil. -/
def RowOk (v : Value) (n : Nat) : Prop := v.ownBlock = none → v = .slice none 0 0 ∧ n = 0
theorem RowOk.nil : RowOk (.slice none 0 0) 0 := fun _ => ⟨rfl, rfl⟩
theorem RowOk.some {v : Value} {n g : Nat} (h : v.ownBlock = some g) : RowOk v n := fun e => by rw [h] at e; cases e
theorem Sl.rowOk {w : World} {T : TypeId} {k n : Nat} {v : Value} {xs : List Value} (h : Sl w T k v n xs) : RowOk v n := fun e => by
  rcases h.2 with h0 | ⟨g, off, cap, cs, rfl, _⟩
  · exact h0
  · simp [Value.ownBlock] at e
theorem Own.slOf {W w : World} {L : Heap} {T : TypeId} {k n : Nat} {v : Value} {xs : List Value} (h : Own W w L) (hs : ∀ x, x ∈ rowOf T k v n xs → x ∈ L) (hl : xs.length = n * k) (ok : RowOk v n) : Sl w T k v n xs := by
  cases hb : v.ownBlock with
  | none =>
    obtain ⟨rfl, rfl⟩ := ok hb
    exact ⟨hl, .inl ⟨rfl, rfl⟩⟩
  | some g => exact (h.row (g := g) (hs _ (by simp [rowOf_some hb]))).2
/-- A fresh slice joins. -/
theorem Own.joinRow {W w w' : World} {L : Heap} {T : TypeId} {k n : Nat} {v : Value} {xs : List Value} (h : Own W w L) (hb : Below w.heap.size w w') (hs : Sl w' T k v n xs) (hf : ∀ g, v.ownBlock = some g → w.heap.size ≤ g) : Own W w' (rowOf T k v n xs ++ L) := by
  have h2 := h.below hb
  cases e : v.ownBlock with
  | none => rw [rowOf_none e]; exact h2
  | some g =>
    rw [rowOf_some e]
    refine h2.join (fun hm => ?_) (Nat.le_trans h.bel.size (hf g e)) ⟨e, hs⟩
    obtain ⟨x, hx, rfl⟩ := List.mem_map.1 hm
    have := h.lt (g := x.1) (a := x.2) hx
    have := hf _ e
    omega

/-- What a change costs. -/
def Chg.price (c : Chg) : Nat := if c.k = 2 then 1 + lenS c.tx else 1
theorem price_le (c : Chg) : c.price ≤ 1 + c.tx.size := by
  have := lenS_le c.tx
  unfold Chg.price
  split <;> omega
/-- What Check returns. -/
def Chg.check (c : Chg) : Int :=
  if c.k < 1 ∨ 6 < c.k then 2
  else if c.k ≠ 6 ∧ (c.a < 1 ∨ 1099511627776 < c.a) then 2
  else if (c.k = 1 ∨ c.k = 5) ∧ (c.t < c.a ∨ 1099511627776 < c.t) then 2
  else if c.k = 5 ∧ c.nm < 0 then 2
  else if c.k = 2 ∧ validS c.tx = false then 5 else 0
def total (l : List Chg) : Nat := (l.map Chg.price).sum
theorem total_nil : total [] = 0 := rfl
theorem total_cons (c : Chg) (l : List Chg) : total (c :: l) = c.price + total l := by simp [total]
theorem total_append (l m : List Chg) : total (l ++ m) = total l + total m := by simp [total]

structure Lg where
  lim : Int
  G : List (List Chg)
  O : List Chg
  ch : Int
  cost : Int
  now : Int
def Lg.new (lim : Int) : Lg := ⟨lim, [], [], -1, 0, 0⟩
def Lg.clear (s : Lg) : Lg := { s with G := [], O := [], ch := -1, cost := 0, now := 0 }
/-- A change joins the open group. -/
def Lg.push (s : Lg) (c : Chg) : Lg := { s with O := s.O ++ [c], cost := s.cost + c.price, now := s.now + c.price }
/-- Does a change lengthen the last one? -/
def Lg.joins (s : Lg) (c : Chg) : Bool := match s.O[s.O.length - 1]? with
  | some x => decide (c.k = 1 ∧ x.k = 1 ∧ x.t = c.a)
  | none => false
def lengthen (l : List Chg) (t : Int) : List Chg := match l[l.length - 1]? with
  | some x => l.set (l.length - 1) { x with t := t }
  | none => l
def Lg.add0 (s : Lg) (c : Chg) : Lg :=
  if s.joins c then { s with O := lengthen s.O c.t }
  else (if 1048576 < s.now + c.price then s.clear else s).push c
def Lg.add (s : Lg) (c : Chg) : Lg := if c.check = 0 then s.add0 c else s
/-- Old groups fall. -/
def trim (lim : Int) : List (List Chg) → Int → Int → List (List Chg) × Int × Int
  | g :: h :: r, cost, ch => if lim < cost then trim lim (h :: r) (cost - total g) (if 0 < ch then ch - 1 else ch) else (g :: h :: r, cost, ch)
  | G, cost, ch => (G, cost, ch)
def Lg.shut (s : Lg) : Lg := if s.O = [] then s else { s with G := s.G ++ [s.O], O := [], now := 0 }
def Lg.trimmed (s : Lg) : Lg := { s with G := (trim s.lim s.G s.cost s.ch).1, cost := (trim s.lim s.G s.cost s.ch).2.1, ch := (trim s.lim s.G s.cost s.ch).2.2 }
def Lg.close (s : Lg) : Lg := s.shut.trimmed
/-- The chain where Undo begins. -/
def Lg.chain0 (s : Lg) (again : Bool) : Int := if again = false ∨ s.ch < 0 then s.G.length else s.ch
def Lg.undo (s : Lg) (again : Bool) : Lg := let c := s.close; { c with ch := if c.chain0 again = 0 then 0 else c.chain0 again - 1 }
def Lg.undone (s : Lg) (again : Bool) : List Chg := let c := s.close; if c.chain0 again = 0 then [] else ((c.G[(c.chain0 again - 1).toNat]?).getD []).reverse
def Lg.undoErr (s : Lg) (again : Bool) : Int := if s.close.chain0 again = 0 then 13 else 0
def Lg.all (s : Lg) : List (List Chg) := if s.O = [] then s.G else s.G ++ [s.O]

/-- Where it lies: the log's block, the headers of the groups' list and of the open group, and the groups with their headers. -/
structure Lb where
  lb : Nat
  gv : Value
  ov : Value
  gs : List (Value × List Chg)
def chgRow (v : Value) (l : List Chg) : Heap := rowOf 51 9 v l.length (rows Chg.cells l)
def grpHeap (gs : List (Value × List Chg)) : Heap := gs.flatMap fun x => chgRow x.1 x.2
def logCells (b : Lb) (s : Lg) : Array Value := #[.int .i64 s.lim, b.gv, b.ov, .int .i64 s.ch, .int .i64 s.cost, .int .i64 s.now]
def Lb.heap (b : Lb) (s : Lg) : Heap := (b.lb, .cells 77 (logCells b s)) :: (rowOf 40 1 b.gv b.gs.length (b.gs.map (·.1)) ++ (chgRow b.ov s.O ++ grpHeap b.gs))

/-- The log lies in memory as s says, beside R. -/
structure LogAt (W w : World) (b : Lb) (s : Lg) (R : Heap) : Prop where
  own : Own W w (b.heap s ++ R)
  grp : s.G = b.gs.map (·.2)
  okG : RowOk b.gv b.gs.length
  okO : RowOk b.ov s.O.length
  okg : ∀ x ∈ b.gs, RowOk x.1 x.2.length

section
variable {W w w' : World} {b : Lb} {s : Lg} {R : Heap}
theorem LogAt.re (h : LogAt W w b s R) (ho : Own W w' (b.heap s ++ R)) : LogAt W w' b s R := ⟨ho, h.grp, h.okG, h.okO, h.okg⟩
theorem LogAt.below (h : LogAt W w b s R) (hb : Below w.heap.size w w') : LogAt W w' b s R := h.re (h.own.below hb)
theorem LogAt.drew (h : LogAt W w b s R) : LogAt W w.drew b s R := h.re h.own.drew
theorem LogAt.drewN (h : LogAt W w b s R) (n : Nat) : LogAt W (w.drewN n) b s R := h.re (h.own.drewN n)
theorem LogAt.skip (h : LogAt W w b s R) (o : Obj) : LogAt W (w.alloc o) b s R := h.re (h.own.skip o)
theorem LogAt.sub {R' : Heap} (h : LogAt W w b s R) (hs : R'.Sublist R) : LogAt W w b s R' := ⟨h.own.sub (List.Sublist.append (List.Sublist.refl _) hs), h.grp, h.okG, h.okO, h.okg⟩
theorem LogAt.perm {R' : Heap} (h : LogAt W w b s R) (hs : R.Perm R') : LogAt W w b s R' := ⟨h.own.perm (List.Perm.append_left _ hs), h.grp, h.okG, h.okO, h.okg⟩
theorem LogAt.drop {x : Nat × Ast} (h : LogAt W w b s (x :: R)) : LogAt W w b s R := h.sub (List.sublist_cons_self ..)
theorem LogAt.box (h : LogAt W w b s R) (t : TypeId) (cs : Array Value) : LogAt W (w.alloc (.cells cs t)) b s ((w.heap.size, .cells t cs) :: R) :=
  ⟨(h.own.newCells t cs).perm List.perm_middle.symm, h.grp, h.okG, h.okO, h.okg⟩
theorem LogAt.blk (h : LogAt W w b s R) : Blk w b.lb 77 (logCells b s) := h.own.blk (by simp [Lb.heap])
theorem LogAt.slG (h : LogAt W w b s R) : Sl w 40 1 b.gv b.gs.length (b.gs.map (·.1)) :=
  h.own.slOf (fun x hx => by simp [Lb.heap]; exact .inr (.inl hx)) (by simp) h.okG
theorem LogAt.slO (h : LogAt W w b s R) : Sl w 51 9 b.ov s.O.length (rows Chg.cells s.O) :=
  h.own.slOf (fun x hx => by simp [Lb.heap, chgRow]; exact .inr (.inr (.inl hx))) (by rw [rows_len chg_len]) h.okO
theorem LogAt.slg (h : LogAt W w b s R) {x : Value × List Chg} (hx : x ∈ b.gs) : Sl w 51 9 x.1 x.2.length (rows Chg.cells x.2) :=
  h.own.slOf (fun y hy => by simp [Lb.heap]; exact .inr (.inr (.inr (.inl (List.mem_flatMap.2 ⟨x, hx, hy⟩))))) (by rw [rows_len chg_len]) (h.okg x hx)
theorem LogAt.len (h : LogAt W w b s R) : s.G.length = b.gs.length := by rw [h.grp]; simp
end
end Go.Proofs.YtghcmakhfdnimaaDoor
