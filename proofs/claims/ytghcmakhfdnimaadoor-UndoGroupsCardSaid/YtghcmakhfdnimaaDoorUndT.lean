/- What UndoGroups keeps beside the log: a list of groups that is built and changed; plain laws. No condition but those written. -/
import Derived.Test.YtghcmakhfdnimaaDoorUndLim
namespace Go.Proofs.YtghcmakhfdnimaaDoor
open Go.RowKit

section
variable {W w w' : World} {b : Lb} {s : Lg} {R : Heap} {v x x' : Value} {hs : List (Value × List Chg)} {l : List Chg}
/-- The list of groups beside a log, the last group's row first. -/
theorem LogAt.toLast (h : LogAt W w b s (gosHeap v (hs ++ [(x, l)]) ++ R)) : Own W w (chgRow x l ++ (rowOf 40 1 v (hs.length + 1) (hs.map (·.1) ++ [x]) ++ (grpHeap hs ++ (R ++ b.heap s)))) := by
  refine h.own.perm ?_
  unfold gosHeap
  rw [grpHeap_snoc, show (hs ++ [(x, l)]).length = hs.length + 1 by simp, show (hs ++ [(x, l)]).map (·.1) = hs.map (·.1) ++ [x] by simp]
  classical
  rw [List.perm_iff_count]
  intro y
  simp only [List.count_append]
  omega
theorem LogAt.ofLast (k : LbOk b s) (h : Own W w (chgRow x l ++ (rowOf 40 1 v (hs.length + 1) (hs.map (·.1) ++ [x]) ++ (grpHeap hs ++ (R ++ b.heap s))))) : LogAt W w b s (gosHeap v (hs ++ [(x, l)]) ++ R) := by
  refine LogAt.ofOwn (h.perm ?_) k
  unfold gosHeap
  rw [grpHeap_snoc, show (hs ++ [(x, l)]).length = hs.length + 1 by simp, show (hs ++ [(x, l)]).map (·.1) = hs.map (·.1) ++ [x] by simp]
  classical
  rw [List.perm_iff_count]
  intro y
  simp only [List.count_append]
  omega
/-- The field To of the last change of the last group is written. -/
theorem LogAt.lastTo {g off c i : Nat} {y : Chg} {t : Int} (h : LogAt W w b s (gosHeap v (hs ++ [(.slice (some ⟨g, off, none⟩) l.length c, l)]) ++ R)) (hy : l[i]? = some y) :
    LogAt W (w.setCell ⟨g, off + i * 9 + 2, none⟩ (.int .i64 t)) b s (gosHeap v (hs ++ [(.slice (some ⟨g, off, none⟩) l.length c, l.set i { y with t := t })]) ++ R) := by
  have h1 := h.toLast
  unfold chgRow at h1
  rw [rowOf_some (v := .slice (some ⟨g, off, none⟩) l.length c) (g := g) rfl] at h1
  have hi : i < l.length := (List.getElem?_eq_some_iff.1 hy).1
  have h2 := Own.setRow h1 (i * 9 + 2) (by rw [rows_len chg_len]; omega) (.int .i64 t)
  rw [rows_set chg_len { y with t := t } 2 (.int .i64 t) l i y hy (by omega) rfl] at h2
  rw [Nat.add_assoc]
  refine LogAt.ofLast h.ok ?_
  unfold chgRow
  rw [rowOf_some (v := .slice (some ⟨g, off, none⟩) l.length c) (g := g) rfl, List.length_set]
  exact h2
/-- What append to the last group leaves, stored back into the list. -/
theorem LogAt.lastPush {g off c : Nat} {d : Chg} (h : LogAt W w b s (gosHeap (.slice (some ⟨g, off, none⟩) (hs.length + 1) c) (hs ++ [(x, l)]) ++ R)) (hs' : Sl w' 51 9 x' (l.length + 1) (rows Chg.cells l ++ d.cells)) (ho : Only (fun i => x.ownBlock = some i) w w') (hv : x'.ownBlock = x.ownBlock ∨ x'.ownBlock = some w.heap.size) :
    (w'.cell? ⟨g, off + hs.length, none⟩ = some x ∧ w'.frozen? ⟨g, off + hs.length, none⟩ = false) ∧ LogAt W (w'.setCell ⟨g, off + hs.length, none⟩ x') b s (gosHeap (.slice (some ⟨g, off, none⟩) (hs.length + 1) c) (hs ++ [(x', l ++ [d])]) ++ R) := by
  have e : rows Chg.cells l ++ d.cells = rows Chg.cells (l ++ [d]) := by rw [rows_append, rows_one]
  have el : (l ++ [d]).length = l.length + 1 := by simp
  rw [e] at hs'
  have h1 := h.toLast
  unfold chgRow at h1
  have h2 := h1.appended hs' ho hv
  have h3 := h2.perm (R := rowOf 40 1 (.slice (some ⟨g, off, none⟩) (hs.length + 1) c) (hs.length + 1) (hs.map (·.1) ++ [x]) ++ (rowOf 51 9 x' (l.length + 1) (rows Chg.cells (l ++ [d])) ++ (grpHeap hs ++ (R ++ b.heap s)))) (by
    classical
    rw [List.perm_iff_count]
    intro y
    simp only [List.count_append]
    omega)
  rw [rowOf_some (v := .slice (some ⟨g, off, none⟩) (hs.length + 1) c) (g := g) rfl] at h3
  have hrow := (h3.row (List.mem_cons_self ..)).2
  obtain ⟨g', off', c', hv', _, _, hcell, hfz, _⟩ := hrow.at_ (by omega)
  injection hv' with q1 _ _
  injection q1 with q1
  injection q1 with q2 q3
  subst q2 q3
  refine ⟨⟨hcell hs.length x (by simp), hfz _⟩, ?_⟩
  have h4 := Own.setRow h3 hs.length (by simp) x'
  rw [show (hs.map (·.1) ++ [x]).set hs.length x' = hs.map (·.1) ++ [x'] by rw [List.set_append_right _ _ (by simp)]; simp] at h4
  refine LogAt.ofLast h.ok ?_
  unfold chgRow
  rw [el, rowOf_some (v := .slice (some ⟨g, off, none⟩) (hs.length + 1) c) (g := g) rfl]
  refine (show Own W _ ((g, Ast.row 40 1 (.slice (some ⟨g, off, none⟩) (hs.length + 1) c) (hs.length + 1) (hs.map (·.1) ++ [x'])) :: (rowOf 51 9 x' (l.length + 1) (rows Chg.cells (l ++ [d])) ++ (grpHeap hs ++ (R ++ b.heap s)))) from h4).perm ?_
  classical
  rw [List.perm_iff_count]
  intro y
  simp only [List.count_append, List.count_cons, List.count_nil]
  omega
end

/-! ### Plain laws -/
/-- The log and the list of groups, behind n acts. -/
structure Same (s : Lg) (g : List (List Chg)) (n : Nat) : Prop where
  gd : Good s
  sz : Sized s n
  lim : s.lim = 1048576
  all : s.all = g
theorem Same.start : Same (Lg.new 1048576) [] 0 := ⟨Good.new (by omega) (by omega), Sized.new _, rfl, rfl⟩
theorem Same.keeps {s : Lg} {g : List (List Chg)} {n : Nat} (h : Same s g n) (hn : n ≤ 4000) : s.close.G = g := by
  rw [close_keeps h.gd (by have := h.sz.cost; rw [h.lim]; omega), h.all]
theorem Same.close {s : Lg} {g : List (List Chg)} {n : Nat} (h : Same s g n) (hn : n ≤ 4000) : Same s.close g n :=
  ⟨h.gd.close, h.sz.close h.gd, by rw [close_lim h.gd]; exact h.lim, by rw [close_all h.gd]; exact h.keeps hn⟩
theorem Same.bad {s : Lg} {g : List (List Chg)} {n : Nat} (h : Same s g n) {c : Chg} (hc : ¬ c.check = 0) : Same (s.add c) g (n + 1) := by
  have e : s.add c = s := by unfold Lg.add; rw [if_neg hc]
  rw [e]
  exact ⟨h.gd, h.sz.mono (by omega), h.lim, h.all⟩
theorem Same.join {s : Lg} {g : List (List Chg)} {o : List Chg} {n : Nat} (h : Same s (g ++ [o]) n) (ho : s.O ≠ []) (hn : n ≤ 4000) {c : Chg} (hs : c.tx.size ≤ 200) (hc : c.check = 0) (hj : s.joins c = true) :
    s.G = g ∧ s.O = o ∧ Same (s.add c) (g ++ [lengthen o c.t]) (n + 1) ∧ (s.add c).O ≠ [] := by
  have ha := all_append s ho
  rw [h.all] at ha
  obtain ⟨e1, e2⟩ := List.append_inj' ha rfl
  simp at e2
  have g1 := h.gd.add c
  have s1 := h.sz.add hs
  have e := add_small h.gd h.sz hn hs
  rw [if_pos hc, if_pos hj] at e
  rw [e] at g1 s1 ⊢
  obtain ⟨x, hx, _⟩ := joins_yes hj
  have hne : lengthen s.O c.t ≠ [] := fun q => by rw [lengthen_eq hx] at q; have := congrArg List.length q; simp at this; exact ho this
  refine ⟨e1.symm, e2.symm, ⟨g1, s1, h.lim, ?_⟩, hne⟩
  rw [all_append _ hne]
  show s.G ++ [lengthen s.O c.t] = _
  rw [← e1, ← e2]
theorem Same.push {s : Lg} {g : List (List Chg)} {o : List Chg} {n : Nat} (h : Same s (if s.O = [] then g else g ++ [o]) n) (hoo : s.O = [] → o = []) (hn : n ≤ 4000) {c : Chg} (hs : c.tx.size ≤ 200) (hc : c.check = 0) (hj : s.joins c = false) :
    Same (s.add c) (g ++ [o ++ [c]]) (n + 1) ∧ (s.add c).O ≠ [] := by
  have g1 := h.gd.add c
  have s1 := h.sz.add hs
  have e := add_small h.gd h.sz hn hs
  rw [if_pos hc, hj] at e
  simp only [Bool.false_eq_true, if_false] at e
  rw [e] at g1 s1 ⊢
  have hne : (s.push c).O ≠ [] := by show s.O ++ [c] ≠ []; simp
  refine ⟨⟨g1, s1, h.lim, ?_⟩, hne⟩
  rw [all_append _ hne]
  show s.G ++ [s.O ++ [c]] = _
  have ha := h.all
  by_cases ho : s.O = []
  · rw [if_pos ho] at ha
    unfold Lg.all at ha
    rw [if_pos ho] at ha
    rw [ha, ho, hoo ho]
  · rw [if_neg ho, all_append s ho] at ha
    obtain ⟨e1, e2⟩ := List.append_inj' ha rfl
    simp at e2
    rw [e1, e2]
/-- Where the chain stands ahead of the undoing of group k of m. -/
structure Chain (s : Lg) (g : List (List Chg)) (n : Nat) (k : Int) : Prop where
  sm : Same s g n
  ch : s.close.chain0 (decide (k < (g.length : Int) - 1)) = k + 1
theorem Chain.start {s : Lg} {g : List (List Chg)} {n : Nat} (h : Same s g n) (hn : n ≤ 4000) : Chain s g n ((g.length : Int) - 1) :=
  ⟨h, by
    rw [show decide ((g.length : Int) - 1 < (g.length : Int) - 1) = false by simp]
    unfold Lg.chain0
    rw [if_pos (.inl rfl), h.keeps hn]
    omega⟩
theorem Chain.next {s : Lg} {g : List (List Chg)} {n k : Nat} (h : Chain s g n (k : Int)) (hn : n ≤ 4000) (hk : k < g.length) :
    let a := decide ((k : Int) < (g.length : Int) - 1)
    Chain (s.undo a) g n ((k : Int) - 1) ∧ s.undoErr a = 0 ∧ s.undone a = ((g[k]?).getD []).reverse ∧ (s.undo a).ch = (k : Int) ∧ (s.undo a).O = [] := by
  intro a
  have hne : ¬ s.close.chain0 a = 0 := by rw [show s.close.chain0 a = (k : Int) + 1 from h.ch]; omega
  have e1 : s.undo a = { s.close with ch := (k : Int) } := by
    show ({ s.close with ch := if s.close.chain0 a = 0 then 0 else s.close.chain0 a - 1 } : Lg) = _
    have e2 : s.close.chain0 a - 1 = (k : Int) := by rw [show s.close.chain0 a = (k : Int) + 1 from h.ch]; omega
    rw [if_neg hne, e2]
  have hsm := h.sm.close hn
  have gd := h.sm.gd.undo a
  have sz := h.sm.sz.undo h.sm.gd a
  have hO : (s.undo a).O = [] := by rw [e1]; exact close_O h.sm.gd
  have hG : (s.undo a).G = g := by rw [e1]; exact h.sm.keeps hn
  have hall : (s.undo a).all = g := by unfold Lg.all; rw [if_pos hO]; exact hG
  have hlim : (s.undo a).lim = 1048576 := by rw [e1]; exact hsm.lim
  have S : Same (s.undo a) g n := ⟨gd, sz, hlim, hall⟩
  refine ⟨⟨S, ?_⟩, ?_, ?_, by rw [e1], hO⟩
  · have hcl := S.keeps hn
    have hch : (s.undo a).close.ch = (k : Int) := by
      rw [close_eq gd]
      show (trim (s.undo a).lim (s.undo a).all (s.undo a).cost (s.undo a).ch).2.2 = _
      rw [trim_stop (.inl (by have := sz.cost; rw [hlim]; omega))]
      show (s.undo a).ch = _
      rw [e1]
    rw [show decide ((k : Int) - 1 < (g.length : Int) - 1) = true by simp; omega]
    unfold Lg.chain0
    rw [if_neg (by rw [hch]; simp), hch]
    omega
  · show (if s.close.chain0 a = 0 then _ else _) = _
    rw [if_neg hne]
  · show (if s.close.chain0 a = 0 then _ else _) = _
    rw [if_neg hne, show s.close.chain0 a = (k : Int) + 1 from h.ch, h.sm.keeps hn, show ((k : Int) + 1 - 1).toNat = k by omega]
theorem Chain.done {s : Lg} {g : List (List Chg)} {n : Nat} (h : Chain s g n (-1)) (hn : n ≤ 4000) : s.undoErr true = 13 := by
  show (if s.close.chain0 true = 0 then 13 else 0) = 13
  rw [if_pos]
  have hk := h.sm.keeps hn
  have h1 := h.ch
  by_cases h0 : g.length = 0
  · have hc := h.sm.gd.close
    unfold Lg.chain0
    have h2 := hc.ch2
    have h3 := hc.ch1
    rw [hk, h0] at h2
    rw [hk, h0]
    split
    · rfl
    · rename_i q
      simp at q
      omega
  · rw [show decide ((-1 : Int) < (g.length : Int) - 1) = true by simp; omega] at h1
    omega
end Go.Proofs.YtghcmakhfdnimaaDoor
