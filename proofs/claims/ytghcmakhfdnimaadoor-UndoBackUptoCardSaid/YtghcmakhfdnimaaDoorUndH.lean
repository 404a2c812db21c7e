/- Boundary and Undo; slices of the call's own beside a log. No condition but those written. -/
import Derived.Test.YtghcmakhfdnimaaDoorUndG
import Derived.Test.YtghcmakhfdnimaaDoorChg2
namespace Go.Proofs.YtghcmakhfdnimaaDoor
open Go.RowKit

/-- A row of the call's own turns. -/
theorem Own.turnRow {W w w' : World} {L : Heap} {T : TypeId} {k n : Nat} {v : Value} {xs xs' : List Value} (h : Own W w (rowOf T k v n xs ++ L)) (ho : Only (fun b => v.ownBlock = some b) w w') (hs : Sl w' T k v n xs') : Own W w' (rowOf T k v n xs' ++ L) := by
  cases e : v.ownBlock with
  | none =>
    rw [rowOf_none e] at h ⊢
    exact h.below (ho.mono (G := fun _ => False) fun i _ hi => by rw [e] at hi; cases hi).below_none
  | some g =>
    rw [rowOf_some e] at h ⊢
    exact Own.turn h (ho.mono fun i _ hi => by rw [e] at hi; cases hi; rfl) ⟨e, hs⟩
/-- A list of groups that the call has made. -/
def gosHeap (v : Value) (hs : List (Value × List Chg)) : Heap := rowOf 40 1 v hs.length (hs.map (·.1)) ++ grpHeap hs
structure GosOk (v : Value) (hs : List (Value × List Chg)) : Prop where
  hd : RowOk v hs.length
  el : ∀ x ∈ hs, RowOk x.1 x.2.length
theorem GosOk.nil : GosOk (.slice none 0 0) [] := ⟨RowOk.nil, fun x hx => by cases hx⟩
theorem GosOk.snoc {v v' x : Value} {hs : List (Value × List Chg)} {l : List Chg} (h : GosOk v hs) (h1 : RowOk v' (hs.length + 1)) (h2 : RowOk x l.length) : GosOk v' (hs ++ [(x, l)]) :=
  ⟨by rw [show (hs ++ [(x, l)]).length = hs.length + 1 by simp]; exact h1, fun y hy => by
    rcases List.mem_append.1 hy with hy | hy
    · exact h.el y hy
    · simp at hy
      subst hy
      exact h2⟩
theorem gosHeap_nil : gosHeap (.slice none 0 0) [] = [] := rfl
/-- Read as a list of groups. -/
structure RdG (w : World) (v : Value) (hs : List (Value × List Chg)) : Prop where
  hd : Rd w v 1 hs.length (hs.map (·.1))
  el : ∀ x ∈ hs, Rd w x.1 9 x.2.length (rows Chg.cells x.2)
section
variable {W w w' : World} {L : Heap} {v v' x : Value} {hs : List (Value × List Chg)} {l : List Chg}
theorem Own.gosSl (h : Own W w L) (hsub : ∀ y, y ∈ gosHeap v hs → y ∈ L) (ok : GosOk v hs) : Sl w 40 1 v hs.length (hs.map (·.1)) :=
  h.slOf (fun y hy => hsub y (List.mem_append_left _ hy)) (by simp) ok.hd
theorem Own.gosEl (h : Own W w L) (hsub : ∀ y, y ∈ gosHeap v hs → y ∈ L) (ok : GosOk v hs) {x : Value × List Chg} (hx : x ∈ hs) : Sl w 51 9 x.1 x.2.length (rows Chg.cells x.2) :=
  h.slOf (fun y hy => hsub y (List.mem_append_right _ (List.mem_flatMap.2 ⟨x, hx, hy⟩))) (by rw [rows_len chg_len]) (ok.el x hx)
theorem Own.rdG (h : Own W w L) (hsub : ∀ y, y ∈ gosHeap v hs → y ∈ L) (ok : GosOk v hs) : RdG w v hs :=
  ⟨(h.gosSl hsub ok).rd, fun _ hx => (h.gosEl hsub ok hx).rd⟩
/-- A group joins the list. -/
theorem Own.gosSnoc (h : Own W w (gosHeap v hs ++ (chgRow x l ++ L))) (hs' : Sl w' 40 1 v' (hs.length + 1) (hs.map (·.1) ++ [x])) (ho : Only (fun b => v.ownBlock = some b) w w') (hv : v'.ownBlock = v.ownBlock ∨ v'.ownBlock = some w.heap.size) :
    Own W w' (gosHeap v' (hs ++ [(x, l)]) ++ L) := by
  have h1 : Own W w (rowOf 40 1 v hs.length (hs.map (·.1)) ++ (grpHeap hs ++ (chgRow x l ++ L))) := by
    unfold gosHeap at h
    rw [List.append_assoc] at h
    exact h
  have h2 := h1.appended hs' ho hv
  unfold gosHeap
  rw [grpHeap_snoc, show (hs ++ [(x, l)]).length = hs.length + 1 by simp, show (hs ++ [(x, l)]).map (·.1) = hs.map (·.1) ++ [x] by simp]
  simp only [List.append_assoc] at h2 ⊢
  exact h2
end

section
variable {W w w' : World} {b : Lb} {s : Lg} {R R' : Heap} {v : Value} {l l' : List Chg}
theorem LogAt.swap (h : LogAt W w b s R) : Own W w (R ++ b.heap s) := h.own.perm List.perm_append_comm
theorem LogAt.back (h : LogAt W w b s R) (ho : Own W w' (R' ++ b.heap s)) : LogAt W w' b s R' := ⟨ho.perm List.perm_append_comm, h.grp, h.okG, h.okO, h.okg⟩
theorem LogAt.joinC (h : LogAt W w b s R) (hb : Below w.heap.size w w') (hs : Sl w' 51 9 v l.length (rows Chg.cells l)) (hf : ∀ g, v.ownBlock = some g → w.heap.size ≤ g) : LogAt W w' b s (chgRow v l ++ R) := by
  refine h.back ?_
  rw [List.append_assoc]
  exact h.swap.joinRow hb hs hf
theorem LogAt.turnC (h : LogAt W w b s (chgRow v l ++ R)) (ho : Only (fun i => v.ownBlock = some i) w w') (hs : Sl w' 51 9 v l.length (rows Chg.cells l')) (hl : l'.length = l.length) : LogAt W w' b s (chgRow v l' ++ R) := by
  refine h.back ?_
  have h1 := h.swap
  rw [List.append_assoc] at h1 ⊢
  unfold chgRow
  rw [hl]
  exact Own.turnRow h1 ho hs
theorem LogAt.dropC (h : LogAt W w b s (chgRow v l ++ R)) : LogAt W w b s R := h.sub (List.sublist_append_right _ _)
theorem LogAt.slC (h : LogAt W w b s (chgRow v l ++ R)) (ok : RowOk v l.length) : Sl w 51 9 v l.length (rows Chg.cells l) :=
  h.own.slOf (fun x hx => List.mem_append_right _ (List.mem_append_left _ hx)) (by rw [rows_len chg_len]) ok
/-- Everything of Add, for a log of the call's own. -/
theorem add_any (h : LogAt W w b s R) (hg : Good s) (hS : Small s) (hT : Rules W) (c : Chg) (hs : c.tx.size ≤ 1099511627776) : Calls Tryd.prog 21 #[.pointer (some ⟨b.lb, 0, none⟩), c.val] w (AddRes W b s R c) := by
  have hR := h.rules hT
  by_cases hc : c.check = 0
  · cases hj : s.joins c with
    | true => exact add_join h hg.lim1 c hR (by omega) hc hj hS.lenO
    | false =>
      have h1 := hg.now
      have h2 := hg.cost
      have h3 := hS.cost
      exact add_push h hg.lim1 c hR (by omega) hc hj hS.lenO (by omega) (by omega) (by omega) (by omega)
  · exact add_bad h hg.lim1 c hR (by omega) hc
theorem boundary_any (h : LogAt W w b s R) (hg : Good s) (hS : Small s) (hT : Rules W) : Calls Tryd.prog 17 #[.pointer (some ⟨b.lb, 0, none⟩)] w
    fun e w' => e = .returned (.int .i64 0) ∧ ∃ b', b'.lb = b.lb ∧ LogAt W w' b' s.close R := by
  have HN := hide (none_any h hg.lim1)
  have HC := hide (close_any h hg hS hT)
  clear h hg hS hT
  go_enter Tryd.func17, Tryd.ntmps17
  go_wp2_with fail
  refine (Calls.mono HN.out) ?_
  rintro e w2 ⟨rfl, rfl⟩
  go_wp2_with fail
  refine (Calls.mono HC.out) ?_
  rintro e w2 ⟨rfl, h⟩
  have H := hide h
  clear h HN HC
  go_wp2
  go_ret
  exact ⟨rfl, H.out⟩
end
end Go.Proofs.YtghcmakhfdnimaaDoor
