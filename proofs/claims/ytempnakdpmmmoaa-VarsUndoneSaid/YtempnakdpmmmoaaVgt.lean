/- Variables: what Copy makes, plainly; blocks that are frozen while others are made. No condition but those written. -/
import Derived.Test.YtempnakdpmmmoaaVgr
namespace Go.Proofs.Ytempnakdpmmmoaa
open Go.RowKit

/-! ### Frozen blocks -/
def objAt (w : World) (g : Nat) : Obj := (w.heap[g]?).getD (.map #[] 0)
def frz (w : World) (L : Heap) : Heap := L.map fun x => (x.1, .obj (objAt w x.1))
theorem frz_blocks (w : World) (L : Heap) : Heap.blocks (frz w L) = Heap.blocks L := by simp [Heap.blocks, frz, Function.comp_def]
theorem objAt_of {w : World} {g : Nat} (h : g < w.heap.size) : w.heap[g]? = some (objAt w g) := by
  unfold objAt
  rw [Array.getElem?_eq_getElem h]
  rfl
section
variable {W w w' : World} {L M M0 : Heap}
theorem Own.frz (h : Own W w (L ++ M)) : Own W w (frz w L ++ M) := by
  refine ⟨h.bel, ?_, fun x hx => ?_⟩
  · have := h.nod
    rw [Heap.blocks_append] at this ⊢
    rw [frz_blocks]
    exact this
  · rcases List.mem_append.1 hx with hx | hx
    · obtain ⟨y, hy, rfl⟩ := List.mem_map.1 hx
      have hy' := h.all y (List.mem_append_left _ hy)
      exact ⟨objAt_of hy'.1.lt, hy'.2⟩
    · exact h.all x (List.mem_append_right _ hx)
theorem Own.keepF (h : Own W w (L ++ M)) (h' : Own W w' M0) (hs : ∀ x, x ∈ Go.Proofs.Ytempnakdpmmmoaa.frz w L → x ∈ M0) {g : Nat} (hg : g ∈ Heap.blocks L) : w'.heap[g]? = w.heap[g]? := by
  obtain ⟨x, hx, rfl⟩ := List.mem_map.1 hg
  have h1 := h'.obj (hs (x.1, .obj (objAt w x.1)) (List.mem_map.2 ⟨x, hx, rfl⟩))
  have h2 := h.lt (g := x.1) (a := x.2) (List.mem_append_left _ hx)
  rw [h1, objAt_of h2]
theorem Own.thaw (h : Own W w (L ++ M)) (h' : Own W w' (Go.Proofs.Ytempnakdpmmmoaa.frz w L ++ M0)) : Own W w' (L ++ M0) := by
  refine ⟨h'.bel, ?_, fun x hx => ?_⟩
  · have := h'.nod
    rw [Heap.blocks_append] at this ⊢
    rw [frz_blocks] at this
    exact this
  · rcases List.mem_append.1 hx with hx | hx
    · have h1 := h.all x (List.mem_append_left _ hx)
      refine ⟨h1.1.same (h.keepF h' (fun y hy => List.mem_append_left _ hy) (List.mem_map.2 ⟨x, hx, rfl⟩)), h1.2⟩
    · exact h'.all x (List.mem_append_right _ hx)
end

/-! ### What is copied so far -/
def dfl (l : List Ent) (n : Int) : Cel := ((fnd l n).map (·.c)).getD Cel.zero
def lclT (l : List Loc) (k n : Int) : Option Cel := (fnd (((fndL l k).map (·.es)).getD []) n).map (·.c)
theorem dfl_cons (e : Ent) (l : List Ent) (n : Int) : dfl (e :: l) n = if n = e.n then e.c else dfl l n := by
  unfold dfl fnd
  rw [List.find?_cons]
  by_cases h : n = e.n
  · rw [if_pos h]
    have : (n == e.n) = true := by simpa using h
    rw [this]
    rfl
  · rw [if_neg h]
    have : (n == e.n) = false := by simpa using h
    rw [this]
theorem fnd_iff {l : List Ent} (h : (l.map (·.n)).Nodup) (n : Int) (e : Ent) : fnd l n = some e ↔ e ∈ l ∧ e.n = n := by
  refine ⟨fnd_mem, fun ⟨h1, h2⟩ => ?_⟩
  have hs := fnd_of h1 h2
  cases hf : fnd l n with
  | none => rw [hf] at hs; cases hs
  | some f =>
    obtain ⟨h3, h4⟩ := fnd_mem hf
    have : f = e := by
      clear hf hs
      induction l with
      | nil => cases h1
      | cons a t ih =>
        rw [List.map_cons, List.nodup_cons] at h
        rcases List.mem_cons.1 h1 with rfl | h1'
        · rcases List.mem_cons.1 h3 with rfl | h3'
          · rfl
          · exact absurd (List.mem_map.2 ⟨f, h3', by rw [h4, h2]⟩) h.1
        · rcases List.mem_cons.1 h3 with rfl | h3'
          · exact absurd (List.mem_map.2 ⟨e, h1', by rw [h4, h2]⟩) h.1
          · exact ih h.2 ⟨h1', h2⟩ h1' h3'
    rw [this]
theorem fnd_perm {l l' : List Ent} (h : l.Perm l') (hn : (l.map (·.n)).Nodup) (n : Int) : fnd l n = fnd l' n := by
  have hn' : (l'.map (·.n)).Nodup := (h.map _).nodup_iff.1 hn
  cases hf : fnd l' n with
  | some e => exact (fnd_iff hn n e).2 ⟨h.mem_iff.2 (fnd_mem hf).1, (fnd_mem hf).2⟩
  | none =>
    cases hg : fnd l n with
    | none => rfl
    | some e =>
      have := fnd_of (h.mem_iff.1 (fnd_mem hg).1) (fnd_mem hg).2
      rw [hf] at this
      cases this
theorem fndL_iff {l : List Loc} (h : (l.map (·.k)).Nodup) (n : Int) (e : Loc) : fndL l n = some e ↔ e ∈ l ∧ e.k = n := by
  refine ⟨fndL_mem, fun ⟨h1, h2⟩ => ?_⟩
  cases hf : fndL l n with
  | none => exact absurd h2 (fndL_none hf e h1)
  | some f =>
    obtain ⟨h3, h4⟩ := fndL_mem hf
    have : f = e := by
      clear hf
      induction l with
      | nil => cases h1
      | cons a t ih =>
        rw [List.map_cons, List.nodup_cons] at h
        rcases List.mem_cons.1 h1 with rfl | h1'
        · rcases List.mem_cons.1 h3 with rfl | h3'
          · rfl
          · exact absurd (List.mem_map.2 ⟨f, h3', by rw [h4, h2]⟩) h.1
        · rcases List.mem_cons.1 h3 with rfl | h3'
          · exact absurd (List.mem_map.2 ⟨e, h1', by rw [h4, h2]⟩) h.1
          · exact ih h.2 ⟨h1', h2⟩ h1' h3'
    rw [this]
theorem fndL_perm {l l' : List Loc} (h : l.Perm l') (hn : (l.map (·.k)).Nodup) (n : Int) : fndL l n = fndL l' n := by
  have hn' : (l'.map (·.k)).Nodup := (h.map _).nodup_iff.1 hn
  cases hf : fndL l' n with
  | some e => exact (fndL_iff hn n e).2 ⟨h.mem_iff.2 (fndL_mem hf).1, (fndL_mem hf).2⟩
  | none =>
    cases hg : fndL l n with
    | none => rfl
    | some e => exact absurd (fndL_mem hg).2 (fndL_none hf e (h.mem_iff.1 (fndL_mem hg).1))
def cpD (s : Vst) (T : List Ent) : Vw := ⟨dfl T, fun _ _ => none, fndM s.marks, s.notes, s.scope⟩
def cpL (s : Vst) (T : List Loc) : Vw := ⟨s.dflt, lclT T, fndM s.marks, s.notes, s.scope⟩
def cpE (s : Vst) (T : List Loc) (k : Int) (E : List Ent) : Vw := ⟨s.dflt, fun j n => if j = k then (fnd E n).map (·.c) else lclT T j n, fndM s.marks, s.notes, s.scope⟩
theorem cpD_step (s : Vst) (T : List Ent) (e : Ent) : (cpD s T).put 0 e.n e.c = cpD s (e :: T) := by
  rw [put_zero]
  refine Vw.ext (funext fun q => ?_) rfl rfl rfl rfl
  show (if q = e.n then e.c else dfl T q) = dfl (e :: T) q
  rw [dfl_cons]
theorem cpD_end {s : Vst} (ok : s.Ok) {T : List Ent} (h : T.Perm s.defs) : cpD s T = cpL s [] := by
  refine Vw.ext (funext fun q => ?_) (funext fun k => funext fun n => ?_) rfl rfl rfl
  · show dfl T q = s.dflt q
    unfold dfl Vst.dflt
    rw [fnd_perm h ((h.map _).nodup_iff.2 ok.dn)]
  · rfl
theorem cpE_start (s : Vst) {T : List Loc} {k : Int} (h : ∀ x ∈ T, x.k ≠ k) : cpL s T = cpE s T k [] := by
  refine Vw.ext rfl (funext fun j => funext fun n => ?_) rfl rfl rfl
  show lclT T j n = if j = k then (fnd [] n).map (·.c) else lclT T j n
  by_cases hj : j = k
  · rw [if_pos hj]
    unfold lclT
    cases hf : fndL T j with
    | none => rfl
    | some x => exact absurd ((fndL_mem hf).2.trans hj) (h x (fndL_mem hf).1)
  · rw [if_neg hj]
theorem fnd_cons' (e : Ent) (l : List Ent) (n : Int) : fnd (e :: l) n = if n = e.n then some e else fnd l n := by
  unfold fnd
  rw [List.find?_cons]
  by_cases h : n = e.n
  · rw [if_pos h]
    have : (n == e.n) = true := by simpa using h
    rw [this]
  · rw [if_neg h]
    have : (n == e.n) = false := by simpa using h
    rw [this]
theorem cpE_step (s : Vst) (T : List Loc) {k : Int} (hk : k ≠ 0) (E : List Ent) (e : Ent) : (cpE s T k E).put k e.n e.c = cpE s T k (e :: E) := by
  rw [put_scope hk]
  refine Vw.ext rfl (funext fun j => funext fun q => ?_) rfl rfl rfl
  show (if j = k ∧ q = e.n then some e.c else if j = k then (fnd E q).map (·.c) else lclT T j q) = if j = k then (fnd (e :: E) q).map (·.c) else lclT T j q
  rw [fnd_cons']
  by_cases hj : j = k
  · rw [if_pos hj, if_pos hj]
    by_cases hq : q = e.n
    · rw [if_pos ⟨hj, hq⟩, if_pos hq]
      rfl
    · rw [if_neg fun e => hq e.2, if_neg hq]
  · rw [if_neg hj, if_neg hj, if_neg fun e => hj e.1]
theorem cpE_end {s : Vst} (ok : s.Ok) (T : List Loc) {x : Loc} (hx : x ∈ s.locs) {E : List Ent} (h : E.Perm x.es) : cpE s T x.k E = cpL s (x :: T) := by
  refine Vw.ext rfl (funext fun j => funext fun q => ?_) rfl rfl rfl
  show (if j = x.k then (fnd E q).map (·.c) else lclT T j q) = lclT (x :: T) j q
  unfold lclT
  rw [fndL_cons]
  by_cases hj : j = x.k
  · rw [if_pos hj, if_pos hj.symm, fnd_perm h ((h.map _).nodup_iff.2 (ok.en x hx).1)]
    rfl
  · rw [if_neg hj, if_neg fun e => hj e.symm]
theorem cpL_end {s : Vst} (ok : s.Ok) {T : List Loc} (h : T.Perm s.locs) : cpL s T = s.view := by
  refine Vw.ext rfl (funext fun j => funext fun q => ?_) rfl rfl rfl
  show lclT T j q = (s.lcl j q).map (·.c)
  unfold lclT Vst.lcl Vst.inner
  rw [fndL_perm h ((h.map _).nodup_iff.2 ok.ln)]
theorem cpE_none {s : Vst} {T : List Loc} {k : Int} {E : List Ent} {n : Int} (h : ∀ e ∈ E, e.n ≠ n) : (cpE s T k E).l k n = none := by
  show (if k = k then (fnd E n).map (·.c) else lclT T k n) = none
  rw [if_pos rfl]
  cases hf : fnd E n with
  | none => rfl
  | some e => exact absurd (fnd_mem hf).2 (h e (fnd_mem hf).1)
/-! ### Ranges -/
theorem wpList_range_r {P : Program} {w : World} {b : Nat} {m : List (Value × Value)} {ops : Array Oper} {rs : List Oper} {o : Oper} {a : Act} {Q : Exit → Act → World → Prop} {t k e : TypeId} (hg : o.guard = none) (x : Operand) (hop : o.op = Op.range t x) (ht : P.underlying t = some (.map k e)) (hx : a.eval x = .map (some b)) (h : MapIs w b m)
    (hK : ∀ r w', r = w.heap.size → MapRg w' b r m m → Below w.heap.size w w' → wpList P ops Q rs (a.put o.dst (.pointer (some ⟨r, 0, none⟩))) w') : wpList P ops Q (o :: rs) a w :=
  wpList_range_is hg x hop ht hx h fun w' h1 h2 => hK _ w' rfl h1 h2
theorem MapRg.next_r {P : Program} {w : World} {b r : Nat} {m : List (Value × Value)} {α : Type} (f : α → Value × Value) (L : List α) (h : MapRg w b r m (L.map f)) (ty : TypeId) :
    (Hid (L = []) ∧ (Instr.next (.pointer (some ⟨r, 0, none⟩)) false ty).run P w = .ok (.tuple #[.bool false]) w) ∨
    ∃ x w', Hid (∃ A B, L = A ++ x :: B ∧ MapRg w' b r m ((A ++ B).map f) ∧ Only (· = r) w w') ∧ (Instr.next (.pointer (some ⟨r, 0, none⟩)) false ty).run P w = .ok (.tuple #[.bool true, (f x).1, (f x).2]) w' ∧
      (Instr.entry (.pointer (some ⟨r, 0, none⟩))).run P w' = .ok (.tuple #[(f x).1, (f x).2]) w' := by
  rcases h.next (P := P) ty with ⟨h0, hrun⟩ | ⟨k, v, A, B, w', h0, hrun, hrg, ho, hen⟩
  · exact .inl ⟨hide (List.map_eq_nil_iff.1 h0), hrun⟩
  · obtain ⟨A', C, rfl, rfl, hC⟩ := List.map_eq_append_iff.1 h0
    obtain ⟨x, B', rfl, hx, rfl⟩ := List.map_eq_cons_iff.1 hC
    obtain ⟨rfl, rfl⟩ : (f x).1 = k ∧ (f x).2 = v := by rw [hx]; exact ⟨rfl, rfl⟩
    exact .inr ⟨x, w', hide ⟨A', B', rfl, by rw [List.map_append]; exact hrg, ho⟩, hrun, hen⟩
def entP (e : Ent) : Value × Value := (.int .i64 e.n, ptr e.g)
def locP (x : Loc) : Value × Value := (.int .i64 x.k, .map (some x.g))
section
variable {W w w' : World} {b : Vb} {s : Vst} {R R' : Heap}
theorem VarsAt.reR (h : VarsAt W w b s R) (ho : Own W w' (s.heap b ++ R')) : VarsAt W w' b s R' :=
  ⟨ho, ho.slOf (fun _ hx => List.mem_append_left _ (List.mem_append_right _ (List.mem_append_right _ (List.mem_append_right _ (List.mem_append_right _ hx))))) (rows_len nte_len _) h.sl.rowOk⟩
/-- The iterator turns. -/
theorem VarsAt.turnIt {r : Nat} {it : Obj} {mb : Nat} {m rest : List (Value × Value)} (h : VarsAt W w b s ((r, .obj it) :: R)) (ho : Only (· = r) w w') (hg : MapRg w' mb r m rest) : ∃ it', VarsAt W w' b s ((r, .obj it') :: R) := by
  obtain ⟨es, clock, since, seen, c0, q1, q2, q3, q4, q5, q6⟩ := hg.holds
  exact ⟨.mapIter (some mb) since seen c0, h.reR (((h.own.perm List.perm_middle).turn (b := .obj (.mapIter (some mb) since seen c0)) ho q5).perm List.perm_middle.symm)⟩
/-- The iterator comes. -/
theorem VarsAt.newIt {r : Nat} {mb : Nat} {m rest : List (Value × Value)} (h : VarsAt W w b s R) (hr : r = w.heap.size) (hb : Below w.heap.size w w') (hg : MapRg w' mb r m rest) : ∃ it, VarsAt W w' b s ((r, .obj it) :: R) := by
  obtain ⟨es, clock, since, seen, c0, q1, q2, q3, q4, q5, q6⟩ := hg.holds
  exact ⟨.mapIter (some mb) since seen c0, h.reR (((h.own.below hb).join (g := r) (a := .obj (.mapIter (some mb) since seen c0)) (h.own.not_in (by omega)) (by have := h.own.bel.size; omega) q5).perm List.perm_middle.symm)⟩
/-- A range goes on where neither its map nor its iterator is touched. -/
theorem MapRg.stay {r mb : Nat} {m rest : List (Value × Value)} {L L' : Heap} {it : Obj} (hg : MapRg w mb r m rest) (h : Own W w L) (h' : Own W w' L') (hr : (r, Ast.obj it) ∈ L) (hr' : (r, Ast.obj it) ∈ L') (hm : w'.heap[mb]? = w.heap[mb]?) : MapRg w' mb r m rest :=
  hg.same hm ((h'.obj hr').trans (h.obj hr).symm)
end
end Go.Proofs.Ytempnakdpmmmoaa
