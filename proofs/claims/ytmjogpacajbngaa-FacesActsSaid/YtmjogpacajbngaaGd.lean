/- FacesTwice: the plain laws; what holds within. No condition but those written. -/
import Derived.Test.YtmjogpacajbngaaGb
import Derived.Test.YtmjogpacajbngaaRow
namespace Go.Proofs.Ytmjogpacajbngaa
open Go.RowKit

theorem absorb1 {a f : Int} (y : Int) (h : first a f = a) : first (first a y) f = first a y := by
  unfold first at *
  by_cases ha : a = 0
  · rw [if_pos ha] at h ⊢
    by_cases hy : y = 0
    · rw [if_pos hy, hy, h, ha]
    · rw [if_neg hy]
  · rw [if_neg ha, if_neg ha]
theorem absorb {a f : Att} (y : Att) (h : over a f = a) : over (over a y) f = over a y := by
  unfold over at *
  have h0 := congrArg Att.fo h
  have h1 := congrArg Att.ba h
  have h2 := congrArg Att.bo h
  have h3 := congrArg Att.un h
  have h4 := congrArg Att.iv h
  simp only at h0 h1 h2 h3 h4
  simp only [absorb1 _ h0, absorb1 _ h1, absorb1 _ h2, absorb1 _ h3, absorb1 _ h4]
theorem accum_over (D : Fm) (l : List ByteArray) : ∀ a0 : Att, l.foldl (fun a s => over a (fullA D s)) a0 = over a0 (accum D l) := by
  induction l with
  | nil => exact fun a0 => (over_zero a0 _).symm
  | cons x l ih =>
    intro a0
    show l.foldl _ (over a0 (fullA D x)) = over a0 (l.foldl _ (over attZero (fullA D x)))
    rw [ih, ih, over_drop, over_assoc]
theorem accum_append (D : Fm) (l m : List ByteArray) : accum D (l ++ m) = over (accum D l) (accum D m) := by
  show (l ++ m).foldl _ attZero = _
  rw [List.foldl_append]
  exact accum_over D m _
theorem accum_cons (D : Fm) (x : ByteArray) (l : List ByteArray) : accum D (x :: l) = over (over attZero (fullA D x)) (accum D l) := accum_over D l _
theorem accum_mem {D : Fm} {x : ByteArray} {l : List ByteArray} (h : x ∈ l) : over (accum D l) (fullA D x) = accum D l := by
  induction l with
  | nil => cases h
  | cons y l ih =>
    rw [accum_cons]
    rcases List.mem_cons.1 h with rfl | h
    · refine absorb _ ?_
      rw [over_assoc, over_self]
    · rw [over_assoc, ih h]
theorem accum_twice (D : Fm) (l : List ByteArray) : accum D (l ++ l) = accum D l := by
  rw [accum_append, over_self]
/-- What holds in the loop: the attributes' box, the names so far, whatever other boxes there are. -/
structure TwI (W w : World) (ga : Nat) (a : Att) (v : Value) (n : Nat) (once : List ByteArray) (X : Heap) : Prop where
  own : Own W w ((ga, .cells 23 a.cells.toArray) :: (rowOf 9 1 v n (strs once) ++ X))
  ok : RowOk v n
  len : once.length = n
section
variable {W w w' : World} {ga n : Nat} {a : Att} {v : Value} {once : List ByteArray} {X : Heap}
theorem TwI.below (h : TwI W w ga a v n once X) (hb : Below w.heap.size w w') : TwI W w' ga a v n once X := ⟨h.own.below hb, h.ok, h.len⟩
theorem TwI.box (h : TwI W w ga a v n once X) (t : TypeId) (cs : Array Value) : TwI W (w.alloc (.cells cs t)) ga a v n once ((w.heap.size, .cells t cs) :: X) :=
  ⟨(h.own.newCells t cs).perm ((List.Perm.swap _ _ _).trans ((List.perm_middle.symm).cons _)), h.ok, h.len⟩
theorem TwI.sl (h : TwI W w ga a v n once X) : Sl w 9 1 v n (strs once) := Own.slOf h.own (fun x hx => List.mem_cons_of_mem _ (List.mem_append_left _ hx)) (by rw [Nat.mul_one, ← h.len]; simp [strs]) h.ok
theorem TwI.att (h : TwI W w ga a v n once X) : AttAt w ga a := Blk.att (h.own.blk (t := 23) (List.mem_cons_self ..))
theorem TwI.frz (h : TwI W w ga a v n once X) (i : Nat) : w.frozen? ⟨ga, i, none⟩ = false := Blk.frozen (h.own.blk (t := 23) (cs := a.cells.toArray) (List.mem_cons_self ..)) i
theorem TwI.six (h : TwI W w ga a v n once X) (b : Att) : TwI W ((((((w.setCell ⟨ga, 0, none⟩ (.int .i64 b.fo)).setCell ⟨ga, 1, none⟩ (.int .i64 b.ba)).setCell ⟨ga, 2, none⟩ (.int .i64 b.bo)).setCell ⟨ga, 3, none⟩ (.int .i64 b.un)).setCell ⟨ga, 4, none⟩ (.int .i64 b.iv)).setCell ⟨ga, 5, none⟩ (.string b.inh)) ga b v n once X :=
  ⟨h.own.turn (six_only _ _ _) (six_blk (h.own.blk (t := 23) (List.mem_cons_self ..)) b), h.ok, h.len⟩
theorem TwI.less (h : TwI W w ga a v n once X) {Y : Heap} (hs : Y.Sublist X) : TwI W w ga a v n once Y := ⟨h.own.sub (((List.Sublist.refl _).append hs).cons_cons _), h.ok, h.len⟩
theorem TwI.append {v' : Value} {x : ByteArray} (h : TwI W w ga a v n once X) (hs : Sl w' 9 1 v' (n + 1) (strs once ++ [.string x])) (ho : Only (fun b => v.ownBlock = some b) w w') (hv : v'.ownBlock = v.ownBlock ∨ v'.ownBlock = some w.heap.size) : TwI W w' ga a v' (n + 1) (once ++ [x]) X := by
  have e : strs once ++ [Value.string x] = strs (once ++ [x]) := by simp [strs]
  rw [e] at hs
  have h1 : Own W w (rowOf 9 1 v n (strs once) ++ ((ga, .cells 23 a.cells.toArray) :: X)) := h.own.perm List.perm_middle.symm
  exact ⟨(h1.appended hs ho hv).perm List.perm_middle, hs.rowOk, by rw [List.length_append, h.len]; rfl⟩
theorem TwI.mem (h : TwI W w ga a v n once X) {g : Nat} {t : TypeId} {cs : Array Value} (hx : (g, Ast.cells t cs) ∈ X) : Blk w g t cs := h.own.blk (List.mem_cons_of_mem _ (List.mem_append_right _ hx))
end
theorem tw_start {W w : World} (h : Below W.heap.size W w) : TwI W (w.alloc (.cells attZ 23)) w.heap.size attZero (.slice none 0 0) 0 [] [] :=
  ⟨((Own.refl W).below h).newCells _ _, RowOk.nil, rfl⟩
/-- append where the operation is guarded: as one step of a region that draws. -/
theorem step_append_w {P : Program} {ops : Array Oper} {o : Oper} {a : Act} {w : World} {K : Act → World → Prop} {Q : Exit → Act → World → Prop} {E : Prop} (hw : Region.wanted o (yielded ops a.tmps) = true) (s x : Operand) (t : TypeId)
    (ho : o.op = .call { callee := .builtin .append, args := #[s, x], argTypes := #[t, t] })
    (e : TypeId) (i : TypeInfo) (z : Value) (k bytes : Nat) (ht : P.underlying t = some (.slice e)) (hi : P.info? e = some i) (hz : i.zero = some z)
    (hsize : i.size = k) (hby : i.bytes = bytes) (hzs : z.cells.size = k) (v : Value) (n : Nat) (xs : List Value) (hs : a.eval s = v) (h : Sl w e k v n xs)
    (sv : Value) (hx : a.eval x = sv) (m : Nat) (news : List Value) (hr : Rd w sv k m news) (h1 : ∀ u ∈ news, u.oneCell' = true) (h63 : n + m ≤ maxLen) (hbytes : (n + m) * bytes ≤ 140737488355328)
    (hK : ∀ v' w', Sl w' e k v' (n + m) (xs ++ news) → Only (fun b => v.ownBlock = some b) w w' → (v'.ownBlock = v.ownBlock ∨ v'.ownBlock = some w.heap.size) → K (a.put o.dst v') w') :
    if Region.wanted o (yielded ops a.tmps) = true then Oper.wp P o a w K Q else E := by
  rw [if_pos hw]
  obtain ⟨v', w', hrun, h2, h3, h4⟩ := run_append_sl (P := P) w t o.type e i z k bytes ht hi hz hsize hby hzs v n xs h sv m news hr h1 h63 hbytes
  unfold Oper.wp execOp
  simp only [ho, resolve, invoke, builtin, Sem.run_bind, Sem.run_pure, Result.andThen_ok, List.map_toArray, List.map_cons, List.map_nil, hs, hx, hrun]
  exact hK v' w' h2 h3 h4
theorem info_str : (Try.prog.info? 9).map (fun i => (i.zero, i.size, i.bytes)) = some (some (.string ⟨#[]⟩), 1, 16) := by kernel_rfl
theorem strs_one (l : List ByteArray) : ∀ u ∈ strs l, u.oneCell' = true := by
  intro u hu
  obtain ⟨s, _, rfl⟩ := List.mem_map.1 hu
  rfl
end Go.Proofs.Ytmjogpacajbngaa
