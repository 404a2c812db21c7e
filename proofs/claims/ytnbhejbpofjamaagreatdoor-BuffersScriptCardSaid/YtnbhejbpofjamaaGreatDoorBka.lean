/- A log of changes: the state, where it lies, New, Clear, the price of a change. No condition but those written. -/
import Derived.Test.YtnbhejbpofjamaaGreatDoorBgm
import Derived.Test.YtnbhejbpofjamaaGreatDoorRow
import Derived.Test.YtnbhejbpofjamaaGreatDoorDraw
import Derived.RegionTactic
import Derived.BigRegion
import Derived.ChangeAlike
import Derived.BigQuiet
import Derived.Deep.QuietTactic
import Derived.Laws.StructEq
import Derived.IntWalk
import Derived.Laws.ResultCell
import Derived.Laws.Rows
namespace Go.Proofs.YtnbhejbpofjamaaGreatDoor
open Go.RowKit

structure Chg where
  k : Int
  a : Int
  t : Int
  id : Int
  nm : Int
  tx : ByteArray
  vk : Int
  vn : Int
  had : Bool
def Chg.cells (c : Chg) : List Value := [.int .i64 c.k, .int .i64 c.a, .int .i64 c.t, .int .i64 c.id, .int .i64 c.nm, .string c.tx, .int .i64 c.vk, .int .i64 c.vn, .bool c.had]
theorem chg_len (c : Chg) : c.cells.length = 9 := rfl
theorem chg_one (c : Chg) : ∀ u ∈ c.cells, u.oneCell' = true := by
  intro u hu
  simp [Chg.cells] at hu
  rcases hu with rfl | rfl | rfl | rfl | rfl | rfl | rfl | rfl | rfl <;> rfl
abbrev Chg.val (c : Chg) : Value := .agg #[.int .i64 c.k, .int .i64 c.a, .int .i64 c.t, .int .i64 c.id, .int .i64 c.nm, .string c.tx, .int .i64 c.vk, .int .i64 c.vn, .bool c.had]
theorem Chg.ext' {c d : Chg} (h1 : c.k = d.k) (h2 : c.a = d.a) (h3 : c.t = d.t) (h4 : c.id = d.id) (h5 : c.nm = d.nm) (h6 : c.tx = d.tx) (h7 : c.vk = d.vk) (h8 : c.vn = d.vn) (h9 : c.had = d.had) : c = d := by
  cases c; cases d; simp_all
/-- The fields of a change in a world. -/
structure AtC (w : World) (g o : Nat) (c : Chg) : Prop where
  p0 : w.cell? ⟨g, o, none⟩ = some (.int .i64 c.k)
  p1 : w.cell? ⟨g, o + 1, none⟩ = some (.int .i64 c.a)
  p2 : w.cell? ⟨g, o + 2, none⟩ = some (.int .i64 c.t)
  p3 : w.cell? ⟨g, o + 3, none⟩ = some (.int .i64 c.id)
  p4 : w.cell? ⟨g, o + 4, none⟩ = some (.int .i64 c.nm)
  p5 : w.cell? ⟨g, o + 5, none⟩ = some (.string c.tx)
  p6 : w.cell? ⟨g, o + 6, none⟩ = some (.int .i64 c.vk)
  p7 : w.cell? ⟨g, o + 7, none⟩ = some (.int .i64 c.vn)
  p8 : w.cell? ⟨g, o + 8, none⟩ = some (.bool c.had)

theorem info_chg : (Tryz.prog.info? 161).map (fun i => (i.zero, i.size, i.bytes)) = some (some (.agg #[.int .i64 0, .int .i64 0, .int .i64 0, .int .i64 0, .int .i64 0, .string ⟨#[]⟩, .int .i64 0, .int .i64 0, .bool false]), 9, 80) := by kernel_rfl
theorem info_chgs : (Tryz.prog.info? 190).map (fun i => (i.zero, i.size, i.bytes)) = some (some (.slice none 0 0), 1, 24) := by kernel_rfl
section
variable {w : World}
theorem eql_chgs (w : World) (a : Option Addr) (n c : Nat) : (binOp .eql 190 (.slice a n c) (.slice none 0 0)).run Tryz.prog w = .ok (.bool a.isNone) w := Lib.run_eql_slice_nil w _ _ a n c 0 0 Tryz.underlying190
attribute [local go_sem] eql_chgs
/-- A slice of the call's own is handed back. -/
def FreshC (w : World) (l : List Chg) (e : Ending) (w' : World) : Prop := ∃ v, e = .returned v ∧ Sl w' 161 9 v l.length (rows Chg.cells l) ∧ (∀ g, v.ownBlock = some g → w.heap.size ≤ g) ∧ Below w.heap.size w w'
set_option maxRecDepth 100000 in
set_option maxHeartbeats 2000000 in
theorem cclone_some (a : Addr) (c : Nat) (l : List Chg) (w : World) (h : Rd w (.slice (some a) l.length c) 9 l.length (rows Chg.cells l)) (hN : l.length ≤ 1000000) :
    Calls Tryz.prog 134 #[.slice (some a) l.length c] w (FreshC w l) := by
  obtain ⟨i0, hi, hz0, hz1, hz2⟩ := info_parts info_chg
  have he := Sl.new w 161 9 #[] 0 0 (Nat.le_refl _) (by simp [maxLen]) (by simp)
  have he2 : Sl (w.alloc (.cells #[] 161)) 161 9 (.slice (some ⟨w.heap.size, 0, none⟩) 0 0) 0 [] := by simpa using he
  have hB : Below w.heap.size w (w.alloc (.cells #[] 161)) := (Below.refl _ _).alloc (Nat.le_refl _) _
  have hr : Rd (w.alloc (.cells #[] 161)) (.slice (some a) l.length c) 9 l.length (rows Chg.cells l) := h.only (Only.of_below hB) fun _ _ f => f
  go_enter Tryz.func134, Tryz.ntmps134
  go_wp2_with (at_builtin; go_loud (refine wpList_append_sl rfl (.tmp 5) (.tmp 6) 190 rfl 161 i0 _ 9 80 Tryz.underlying190 hi hz0 hz1 hz2 rfl _ 0 [] rfl he2 _ rfl l.length (rows Chg.cells l) hr (rows_cells fun x _ => chg_one x) ?b1 ?b2 ?_))
  case b1 => unfold maxLen; omega
  case b2 => omega
  intro v' w' hsl honly hv'
  have HB := hide (hB.trans (honly.below (B := w.heap.size) (by simp) fun i hi => by simp [Value.ownBlock] at hi; omega))
  have HS := hide (show Sl w' 161 9 v' l.length (rows Chg.cells l) by simpa using hsl)
  have HG := hide (show ∀ g, v'.ownBlock = some g → w.heap.size ≤ g from fun g hg => by
    rcases hv' with e | e <;> rw [e] at hg <;> simp [Value.ownBlock] at hg <;> omega)
  clear hsl honly hv' hB he h
  go_wp2
  go_ret
  exact ⟨_, rfl, HS.out, HG.out, HB.out⟩
set_option maxRecDepth 100000 in
theorem cclone_none (c : Nat) (w : World) : Calls Tryz.prog 134 #[.slice none 0 c] w (FreshC w []) := by
  have HF := hide (show FreshC w [] (.returned (.slice none 0 0)) w from ⟨_, rfl, Sl.nil _ _ _, fun g hg => by simp [Value.ownBlock] at hg, Below.refl _ _⟩)
  go_enter Tryz.func134, Tryz.ntmps134
  go_wp2
  go_ret
  exact HF.out
theorem cclone_any (v : Value) (l : List Chg) (w : World) (h : Rd w v 9 l.length (rows Chg.cells l)) (hN : l.length ≤ 1000000) :
    Calls Tryz.prog 134 #[v] w (FreshC w l) := by
  obtain ⟨A, c, rfl, hl, hr⟩ := id h
  cases A with
  | some a => exact cclone_some a c l w h hN
  | none =>
    have : l.length = 0 := by
      rcases Nat.eq_zero_or_pos l.length with h0 | h0
      · exact h0
      · obtain ⟨b, off, hA, _⟩ := hr h0
        cases hA
    have := List.eq_nil_of_length_eq_zero this
    subst this
    exact cclone_none c w

/-- All cells of an element are written. -/
theorem Sl.putC {w : World} {g off c i : Nat} {L : List Chg} (h : Sl w 161 9 (.slice (some ⟨g, off, none⟩) L.length c) L.length (rows Chg.cells L)) (hi : i < L.length) (y : Chg) :
    Sl (((((((((w.setCell ⟨g, off + i * 9, none⟩ (.int .i64 y.k)).setCell ⟨g, off + i * 9 + 1, none⟩ (.int .i64 y.a)).setCell ⟨g, off + i * 9 + 2, none⟩ (.int .i64 y.t)).setCell ⟨g, off + i * 9 + 3, none⟩ (.int .i64 y.id)).setCell ⟨g, off + i * 9 + 4, none⟩ (.int .i64 y.nm)).setCell ⟨g, off + i * 9 + 5, none⟩ (.string y.tx)).setCell ⟨g, off + i * 9 + 6, none⟩ (.int .i64 y.vk)).setCell ⟨g, off + i * 9 + 7, none⟩ (.int .i64 y.vn)).setCell ⟨g, off + i * 9 + 8, none⟩ (.bool y.had))
      161 9 (.slice (some ⟨g, off, none⟩) L.length c) L.length (rows Chg.cells (L.set i y)) := by
  have hlen : ∀ M : List Chg, M.length = L.length → (rows Chg.cells M).length = L.length * 9 := fun M hM => by rw [rows_len chg_len, hM]
  obtain ⟨x, hx⟩ : ∃ x, L[i]? = some x := ⟨_, List.getElem?_eq_getElem hi⟩
  have step : ∀ {w : World} {M : List Chg} {x y : Chg} {j : Nat} {u : Value}, M.length = L.length → M[i]? = some x → j < 9 → x.cells.set j u = y.cells → Sl w 161 9 (.slice (some ⟨g, off, none⟩) L.length c) L.length (rows Chg.cells M) →
      Sl (w.setCell ⟨g, off + (i * 9 + j), none⟩ u) 161 9 (.slice (some ⟨g, off, none⟩) L.length c) L.length (rows Chg.cells (M.set i y)) := fun {w M x y j u} hM hx hj he hs => by
    have := hs.set (i * 9 + j) (by rw [hlen M hM]; omega) u
    rwa [rows_set chg_len y j u M i x hx hj he] at this
  have at_ : ∀ (z : Chg), (L.set i z)[i]? = some z := fun z => by rw [List.getElem?_set_self]; simpa using hi
  simp only [Nat.add_assoc]
  have h0 := step (j := 0) (u := .int .i64 y.k) (y := { x with k := y.k }) rfl hx (by omega) rfl h
  have nx : ∀ {w : World} {x z : Chg} {j : Nat} {u : Value}, Sl w 161 9 (.slice (some ⟨g, off, none⟩) L.length c) L.length (rows Chg.cells (L.set i x)) → j < 9 → x.cells.set j u = z.cells →
      Sl (w.setCell ⟨g, off + (i * 9 + j), none⟩ u) 161 9 (.slice (some ⟨g, off, none⟩) L.length c) L.length (rows Chg.cells (L.set i z)) := fun {w x z j u} hs hj he => by
    have := step (M := L.set i x) (by simp) (at_ x) hj he hs
    rwa [List.set_set] at this
  have h1 := nx (j := 1) (u := .int .i64 y.a) (z := { x with k := y.k, a := y.a }) h0 (by omega) rfl
  have h2 := nx (j := 2) (u := .int .i64 y.t) (z := { x with k := y.k, a := y.a, t := y.t }) h1 (by omega) rfl
  have h3 := nx (j := 3) (u := .int .i64 y.id) (z := { x with k := y.k, a := y.a, t := y.t, id := y.id }) h2 (by omega) rfl
  have h4 := nx (j := 4) (u := .int .i64 y.nm) (z := { x with k := y.k, a := y.a, t := y.t, id := y.id, nm := y.nm }) h3 (by omega) rfl
  have h5 := nx (j := 5) (u := .string y.tx) (z := { x with k := y.k, a := y.a, t := y.t, id := y.id, nm := y.nm, tx := y.tx }) h4 (by omega) rfl
  have h6 := nx (j := 6) (u := .int .i64 y.vk) (z := { x with k := y.k, a := y.a, t := y.t, id := y.id, nm := y.nm, tx := y.tx, vk := y.vk }) h5 (by omega) rfl
  have h7 := nx (j := 7) (u := .int .i64 y.vn) (z := { x with k := y.k, a := y.a, t := y.t, id := y.id, nm := y.nm, tx := y.tx, vk := y.vk, vn := y.vn }) h6 (by omega) rfl
  exact nx (j := 8) (u := .bool y.had) (z := y) h7 (by omega) rfl
/-- All cells of an element. -/
theorem Rd.atC {w : World} {v : Value} {L : List Chg} (h : Rd w v 9 L.length (rows Chg.cells L)) (hn : 0 < L.length) :
    ∃ g off c, v = .slice (some ⟨g, off, none⟩) L.length c ∧ ∀ i x, L[i]? = some x → AtC w g (off + i * 9) x := by
  obtain ⟨g, off, c, hv, hc⟩ := h.fld chg_len hn
  exact ⟨g, off, c, hv, fun i x hx => ⟨hc i x 0 _ hx rfl, hc i x 1 _ hx rfl, hc i x 2 _ hx rfl, hc i x 3 _ hx rfl, hc i x 4 _ hx rfl, hc i x 5 _ hx rfl, hc i x 6 _ hx rfl, hc i x 7 _ hx rfl, hc i x 8 _ hx rfl⟩⟩
theorem Sl.atC {w : World} {v : Value} {L : List Chg} (h : Sl w 161 9 v L.length (rows Chg.cells L)) (hn : 0 < L.length) :
    ∃ g off c, v = .slice (some ⟨g, off, none⟩) L.length c ∧ L.length ≤ c ∧ c ≤ maxLen ∧ g < w.heap.size ∧ (∀ j, w.frozen? ⟨g, j, none⟩ = false) ∧ ∀ i x, L[i]? = some x → AtC w g (off + i * 9) x := by
  obtain ⟨g, off, c, hv, h1, h2, h3, h4, hc⟩ := h.fld chg_len hn
  exact ⟨g, off, c, hv, h1, h2, h3, h4, fun i x hx => ⟨hc i x 0 _ hx rfl, hc i x 1 _ hx rfl, hc i x 2 _ hx rfl, hc i x 3 _ hx rfl, hc i x 4 _ hx rfl, hc i x 5 _ hx rfl, hc i x 6 _ hx rfl, hc i x 7 _ hx rfl, hc i x 8 _ hx rfl⟩⟩
end
end Go.Proofs.YtnbhejbpofjamaaGreatDoor
namespace Go.Proofs.YtnbhejbpofjamaaGreatDoor
open Go.RowKit

/-- What a change costs. -/
def Chg.price (c : Chg) : Nat := if c.k = 2 then 1 + lenS c.tx else 1
theorem price_le (c : Chg) : c.price ≤ 1 + c.tx.size := by
  have := lenS_le c.tx
  unfold Chg.price
  split <;> omega
/-- What Check returns. -/
def Chg.check (c : Chg) : Int :=
  if c.k < 1 ∨ 6 < c.k then 2
  else if c.k ≠ 6 ∧ (c.a < 1 ∨ 1099511627776 < c.a) then 2
  else if (c.k = 1 ∨ c.k = 5) ∧ (c.t < c.a ∨ 1099511627776 < c.t) then 2
  else if c.k = 5 ∧ c.nm < 0 then 2
  else if c.k = 2 ∧ validS c.tx = false then 5 else 0
def total (l : List Chg) : Nat := (l.map Chg.price).sum
theorem total_nil : total [] = 0 := rfl
theorem total_cons (c : Chg) (l : List Chg) : total (c :: l) = c.price + total l := by simp [total]
theorem total_append (l m : List Chg) : total (l ++ m) = total l + total m := by simp [total]

structure Lg where
  lim : Int
  G : List (List Chg)
  O : List Chg
  ch : Int
  cost : Int
  now : Int
def Lg.new (lim : Int) : Lg := ⟨lim, [], [], -1, 0, 0⟩
def Lg.clear (s : Lg) : Lg := { s with G := [], O := [], ch := -1, cost := 0, now := 0 }
/-- A change joins the open group. -/
def Lg.push (s : Lg) (c : Chg) : Lg := { s with O := s.O ++ [c], cost := s.cost + c.price, now := s.now + c.price }
/-- Does a change lengthen the last one? -/
def Lg.joins (s : Lg) (c : Chg) : Bool := match s.O[s.O.length - 1]? with
  | some x => decide (c.k = 1 ∧ x.k = 1 ∧ x.t = c.a)
  | none => false
def lengthen (l : List Chg) (t : Int) : List Chg := match l[l.length - 1]? with
  | some x => l.set (l.length - 1) { x with t := t }
  | none => l
def Lg.add0 (s : Lg) (c : Chg) : Lg :=
  if s.joins c then { s with O := lengthen s.O c.t }
  else (if 1048576 < s.now + c.price then s.clear else s).push c
def Lg.add (s : Lg) (c : Chg) : Lg := if c.check = 0 then s.add0 c else s
/-- Old groups fall. -/
def trim (lim : Int) : List (List Chg) → Int → Int → List (List Chg) × Int × Int
  | g :: h :: r, cost, ch => if lim < cost then trim lim (h :: r) (cost - total g) (if 0 < ch then ch - 1 else ch) else (g :: h :: r, cost, ch)
  | G, cost, ch => (G, cost, ch)
def Lg.shut (s : Lg) : Lg := if s.O = [] then s else { s with G := s.G ++ [s.O], O := [], now := 0 }
def Lg.trimmed (s : Lg) : Lg := { s with G := (trim s.lim s.G s.cost s.ch).1, cost := (trim s.lim s.G s.cost s.ch).2.1, ch := (trim s.lim s.G s.cost s.ch).2.2 }
def Lg.close (s : Lg) : Lg := s.shut.trimmed
/-- The chain where Undo begins. -/
def Lg.chain0 (s : Lg) (again : Bool) : Int := if again = false ∨ s.ch < 0 then s.G.length else s.ch
def Lg.undo (s : Lg) (again : Bool) : Lg := let c := s.close; { c with ch := if c.chain0 again = 0 then 0 else c.chain0 again - 1 }
def Lg.undone (s : Lg) (again : Bool) : List Chg := let c := s.close; if c.chain0 again = 0 then [] else ((c.G[(c.chain0 again - 1).toNat]?).getD []).reverse
def Lg.undoErr (s : Lg) (again : Bool) : Int := if s.close.chain0 again = 0 then 13 else 0
def Lg.all (s : Lg) : List (List Chg) := if s.O = [] then s.G else s.G ++ [s.O]

/-- Where it lies: the log's block, the headers of the groups' list and of the open group, and the groups with their headers. -/
structure Lb where
  lb : Nat
  gv : Value
  ov : Value
  gs : List (Value × List Chg)
def chgRow (v : Value) (l : List Chg) : Heap := rowOf 161 9 v l.length (rows Chg.cells l)
def grpHeap (gs : List (Value × List Chg)) : Heap := gs.flatMap fun x => chgRow x.1 x.2
def logCells (b : Lb) (s : Lg) : Array Value := #[.int .i64 s.lim, b.gv, b.ov, .int .i64 s.ch, .int .i64 s.cost, .int .i64 s.now]
def Lb.heap (b : Lb) (s : Lg) : Heap := (b.lb, .cells 192 (logCells b s)) :: (rowOf 190 1 b.gv b.gs.length (b.gs.map (·.1)) ++ (chgRow b.ov s.O ++ grpHeap b.gs))

/-- The log lies in memory as s says, beside R. -/
structure LogAt (W w : World) (b : Lb) (s : Lg) (R : Heap) : Prop where
  own : Own W w (b.heap s ++ R)
  grp : s.G = b.gs.map (·.2)
  okG : RowOk b.gv b.gs.length
  okO : RowOk b.ov s.O.length
  okg : ∀ x ∈ b.gs, RowOk x.1 x.2.length

section
variable {W w w' : World} {b : Lb} {s : Lg} {R : Heap}
theorem LogAt.re (h : LogAt W w b s R) (ho : Own W w' (b.heap s ++ R)) : LogAt W w' b s R := ⟨ho, h.grp, h.okG, h.okO, h.okg⟩
theorem LogAt.below (h : LogAt W w b s R) (hb : Below w.heap.size w w') : LogAt W w' b s R := h.re (h.own.below hb)
theorem LogAt.drew (h : LogAt W w b s R) : LogAt W w.drew b s R := h.re h.own.drew
theorem LogAt.drewN (h : LogAt W w b s R) (n : Nat) : LogAt W (w.drewN n) b s R := h.re (h.own.drewN n)
theorem LogAt.skip (h : LogAt W w b s R) (o : Obj) : LogAt W (w.alloc o) b s R := h.re (h.own.skip o)
theorem LogAt.sub {R' : Heap} (h : LogAt W w b s R) (hs : R'.Sublist R) : LogAt W w b s R' := ⟨h.own.sub (List.Sublist.append (List.Sublist.refl _) hs), h.grp, h.okG, h.okO, h.okg⟩
theorem LogAt.perm {R' : Heap} (h : LogAt W w b s R) (hs : R.Perm R') : LogAt W w b s R' := ⟨h.own.perm (List.Perm.append_left _ hs), h.grp, h.okG, h.okO, h.okg⟩
theorem LogAt.drop {x : Nat × Ast} (h : LogAt W w b s (x :: R)) : LogAt W w b s R := h.sub (List.sublist_cons_self ..)
theorem LogAt.box (h : LogAt W w b s R) (t : TypeId) (cs : Array Value) : LogAt W (w.alloc (.cells cs t)) b s ((w.heap.size, .cells t cs) :: R) :=
  ⟨(h.own.newCells t cs).perm List.perm_middle.symm, h.grp, h.okG, h.okO, h.okg⟩
theorem LogAt.blk (h : LogAt W w b s R) : Blk w b.lb 192 (logCells b s) := h.own.blk (by simp [Lb.heap])
theorem LogAt.slG (h : LogAt W w b s R) : Sl w 190 1 b.gv b.gs.length (b.gs.map (·.1)) :=
  h.own.slOf (fun x hx => by simp [Lb.heap]; exact .inr (.inl hx)) (by simp) h.okG
theorem LogAt.slO (h : LogAt W w b s R) : Sl w 161 9 b.ov s.O.length (rows Chg.cells s.O) :=
  h.own.slOf (fun x hx => by simp [Lb.heap, chgRow]; exact .inr (.inr (.inl hx))) (by rw [rows_len chg_len]) h.okO
theorem LogAt.slg (h : LogAt W w b s R) {x : Value × List Chg} (hx : x ∈ b.gs) : Sl w 161 9 x.1 x.2.length (rows Chg.cells x.2) :=
  h.own.slOf (fun y hy => by simp [Lb.heap]; exact .inr (.inr (.inr (.inl (List.mem_flatMap.2 ⟨x, hx, hy⟩))))) (by rw [rows_len chg_len]) (h.okg x hx)
theorem LogAt.len (h : LogAt W w b s R) : s.G.length = b.gs.length := by rw [h.grp]; simp
end
end Go.Proofs.YtnbhejbpofjamaaGreatDoor
namespace Go.Proofs.YtnbhejbpofjamaaGreatDoor
open Go.RowKit

section
variable {W w w' : World} {b : Lb} {s : Lg} {R : Heap}
theorem LogAt.c0 (h : LogAt W w b s R) : w.cell? ⟨b.lb, 0, none⟩ = some (.int .i64 s.lim) := by rw [h.blk.cell]; rfl
theorem LogAt.c1 (h : LogAt W w b s R) : w.cell? ⟨b.lb, 1, none⟩ = some b.gv := by rw [h.blk.cell]; rfl
theorem LogAt.c2 (h : LogAt W w b s R) : w.cell? ⟨b.lb, 2, none⟩ = some b.ov := by rw [h.blk.cell]; rfl
theorem LogAt.c3 (h : LogAt W w b s R) : w.cell? ⟨b.lb, 3, none⟩ = some (.int .i64 s.ch) := by rw [h.blk.cell]; rfl
theorem LogAt.c4 (h : LogAt W w b s R) : w.cell? ⟨b.lb, 4, none⟩ = some (.int .i64 s.cost) := by rw [h.blk.cell]; rfl
theorem LogAt.c5 (h : LogAt W w b s R) : w.cell? ⟨b.lb, 5, none⟩ = some (.int .i64 s.now) := by rw [h.blk.cell]; rfl
theorem lnone_any (h : LogAt W w b s R) (hl : 1 ≤ s.lim) : Calls Tryz.prog 133 #[.pointer (some ⟨b.lb, 0, none⟩)] w fun e w' => e = .returned (.bool false) ∧ w = w' := by
  have c0 := h.c0
  have hz : (s.lim == 0) = false := by simp; omega
  clear h
  go_enter Tryz.func133, Tryz.ntmps133
  go_wp2
  go_ret
  exact ⟨rfl, rfl⟩
theorem lnone_nil (w : World) : Calls Tryz.prog 133 #[.pointer none] w fun e w' => e = .returned (.bool true) ∧ w = w' := by
  go_enter Tryz.func133, Tryz.ntmps133
  go_wp2
  go_ret
  exact ⟨rfl, rfl⟩
/-- The list of a log's blocks that Clear leaves. -/
def Lb.cleared (b : Lb) : Lb := ⟨b.lb, .slice none 0 0, .slice none 0 0, []⟩
theorem LogAt.cleared (h : LogAt W w b s R) : LogAt W (((((w.setCell ⟨b.lb, 1, none⟩ (.slice none 0 0)).setCell ⟨b.lb, 2, none⟩ (.slice none 0 0)).setCell ⟨b.lb, 3, none⟩ (.int .i64 (-1))).setCell ⟨b.lb, 4, none⟩ (.int .i64 0)).setCell ⟨b.lb, 5, none⟩ (.int .i64 0)) b.cleared s.clear R := by
  have h1 := h.own
  unfold Lb.heap at h1
  have h2 : Own W w ((b.lb, .cells 192 (logCells b s)) :: R) := h1.sub (List.Sublist.cons_cons _ (List.sublist_append_right _ _))
  exact ⟨((((h2.setCell 1 (.slice none 0 0)).setCell 2 (.slice none 0 0)).setCell 3 (.int .i64 (-1))).setCell 4 (.int .i64 0)).setCell 5 (.int .i64 0), rfl, RowOk.nil, RowOk.nil, fun x hx => by cases hx⟩
theorem clear_any (h : LogAt W w b s R) (hl : 1 ≤ s.lim) : Calls Tryz.prog 193 #[.pointer (some ⟨b.lb, 0, none⟩)] w fun e w' => e = .returned (.int .i64 0) ∧ LogAt W w' b.cleared s.clear R := by
  have HN := hide (lnone_any h hl)
  have c1 := h.c1
  have c2 := h.c2
  have c3 := h.c3
  have c4 := h.c4
  have c5 := h.c5
  have f1 := h.blk.frozen 1
  have f2 := h.blk.frozen 2
  have f3 := h.blk.frozen 3
  have f4 := h.blk.frozen 4
  have f5 := h.blk.frozen 5
  have HC := hide h.cleared
  clear h
  go_enter Tryz.func193, Tryz.ntmps193
  go_wp2_with fail
  refine (Calls.mono HN.out) ?_
  rintro e w2 ⟨rfl, rfl⟩
  go_wp2
  go_ret
  exact ⟨rfl, HC.out⟩
theorem LogAt.new (w : World) (lim : Int) : LogAt w (w.alloc (.cells #[.int .i64 lim, .slice none 0 0, .slice none 0 0, .int .i64 (-1), .int .i64 0, .int .i64 0] 192)) ⟨w.heap.size, .slice none 0 0, .slice none 0 0, []⟩ (Lg.new lim) [] :=
  ⟨(Own.refl w).newCells _ _, rfl, RowOk.nil, RowOk.nil, fun x hx => by cases hx⟩
theorem LogAt.newAt {L : Heap} (h : Own W w L) (lim : Int) : LogAt W (w.alloc (.cells #[.int .i64 lim, .slice none 0 0, .slice none 0 0, .int .i64 (-1), .int .i64 0, .int .i64 0] 192)) ⟨w.heap.size, .slice none 0 0, .slice none 0 0, []⟩ (Lg.new lim) L :=
  ⟨h.newCells _ _, rfl, RowOk.nil, RowOk.nil, fun x hx => by cases hx⟩
theorem new_ok {L : Heap} (h : Own W w L) (lim : Int) (h1 : 1 ≤ lim) (h2 : lim ≤ 1048576) : Calls Tryz.prog 95 #[.int .i64 lim] w fun e w' => e = .returned (.tuple #[.pointer (some ⟨w.heap.size, 0, none⟩), .int .i64 0]) ∧ LogAt W w' ⟨w.heap.size, .slice none 0 0, .slice none 0 0, []⟩ (Lg.new lim) L := by
  have HC := hide (LogAt.newAt h lim)
  clear h
  go_enter Tryz.func95, Tryz.ntmps95
  go_wp2
  go_ret2
  exact ⟨rfl, HC.out⟩
theorem price_any (c : Chg) (w : World) (hT : Tabs w) (hs : c.tx.size ≤ 140737488355328) : Calls Tryz.prog 192 #[c.val] w fun e w' => e = .returned (.int .i64 (c.price : Int)) ∧ Below w.heap.size w w' := by
  have HB := hide ((Below.refl _ w).alloc (Nat.le_refl _) (.cells c.cells.toArray 161))
  have hl := lenS_le c.tx
  have HL := hide (len_any c.tx (w.alloc (.cells c.cells.toArray 161)) (by omega) (hT.below HB.out))
  by_cases hk : c.k = 2
  · have HP := hide (show c.price = 1 + lenS c.tx by unfold Chg.price; rw [if_pos hk])
    have hz : (c.k == 2) = true := by simpa using hk
    clear hT hk
    go_enter Tryz.func192, Tryz.ntmps192
    go_wp2_with fail
    refine (Calls.mono HL.out) ?_
    rintro e w2 ⟨rfl, hb⟩
    have HB2 := hide (HB.out.trans (hb.mono HB.out.size))
    clear hb
    go_wp2
    go_ret
    exact ⟨by rw [HP.out]; go_num, HB2.out⟩
  · have HP := hide (show c.price = 1 by unfold Chg.price; rw [if_neg hk])
    have hz : (c.k == 2) = false := by simpa using hk
    clear hT hk
    go_enter Tryz.func192, Tryz.ntmps192
    go_wp2
    go_ret
    exact ⟨by rw [HP.out]; rfl, HB.out⟩
end
end Go.Proofs.YtnbhejbpofjamaaGreatDoor
