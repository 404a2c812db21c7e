/- Variables seen as functions: a view of the state, what each method makes of it. No condition but those written. -/
import Derived.Test.YtempnakdpmmmoaaVgc
import Derived.Test.YtempnakdpmmmoaaVarLq
namespace Go.Proofs.Ytempnakdpmmmoaa
open Go.RowKit

/-- What a set of variables says: defaults, local values, marks, bindings, the scope. -/
structure Vw where
  d : Int → Cel
  l : Int → Int → Option Cel
  m : Int → Option Bool
  B : List Nte
  S : Int
def Vst.view (s : Vst) : Vw := ⟨s.dflt, fun k n => (s.lcl k n).map (·.c), fndM s.marks, s.notes, s.scope⟩
structure Vst.Ok (s : Vst) : Prop where
  dn : (s.defs.map (·.n)).Nodup
  dr : ∀ e ∈ s.defs, 0 ≤ e.n ∧ e.n < 16384
  ln : (s.locs.map (·.k)).Nodup
  lr : ∀ x ∈ s.locs, 1 ≤ x.k ∧ x.k ≤ 65536
  en : ∀ x ∈ s.locs, (x.es.map (·.n)).Nodup ∧ ∀ e ∈ x.es, 0 ≤ e.n ∧ e.n < 16384
  sc : 0 ≤ s.scope ∧ s.scope ≤ 65536
  ns : ∀ x ∈ s.notes, (0 ≤ x.n ∧ x.n < 16384) ∧ 0 ≤ x.s ∧ x.s ≤ 65536
  nl : s.notes.length ≤ 2000
/-- The variables at block vb have the view v. -/
structure VZ (W w : World) (vb : Nat) (v : Vw) (R : Heap) : Prop where
  at_ : ∃ b s, b.vb = vb ∧ VarsAt W w b s R ∧ s.Ok ∧ s.view = v
/-- What every view of a set obeys. -/
structure Vw.Ok (v : Vw) : Prop where
  lr : ∀ k n, (v.l k n).isSome = true → (1 ≤ k ∧ k ≤ 65536) ∧ 0 ≤ n ∧ n < 16384
  dr : ∀ n, ¬ (0 ≤ n ∧ n < 16384) → v.d n = Cel.zero
  sc : 0 ≤ v.S ∧ v.S ≤ 65536
  ns : ∀ x ∈ v.B, (0 ≤ x.n ∧ x.n < 16384) ∧ 0 ≤ x.s ∧ x.s ≤ 65536
  nl : v.B.length ≤ 2000

/-! ### What the methods do to a view -/
def varN (n : Int) : Prop := 0 ≤ n ∧ n < 16384
instance (n : Int) : Decidable (varN n) := by unfold varN; infer_instance
def scpK (k : Int) : Prop := 1 ≤ k ∧ k ≤ 65536
instance (k : Int) : Decidable (scpK k) := by unfold scpK; infer_instance
def Vw.chg (v : Vw) (n : Int) : Int := if varN n then (if v.m n = some true then 10 else 0) else 8
def Vw.plc (v : Vw) (n : Int) : Int := if (v.l v.S n).isSome then v.S else 0
def Vw.now (v : Vw) (n : Int) : Cel := (v.l v.S n).getD (v.d n)
/-- A cell is put at a place: a scope, or 0 for the default. -/
def Vw.put (v : Vw) (k n : Int) (c : Cel) : Vw := if k = 0 then { v with d := fun q => if q = n then c else v.d q } else { v with l := fun j q => if j = k ∧ q = n then some c else v.l j q }
def Vw.kil (v : Vw) (k n : Int) : Vw := { v with l := fun j q => if j = k ∧ q = n then none else v.l j q }
def Vw.drp (v : Vw) (k : Int) : Vw := { v with l := fun j q => if j = k then none else v.l j q, S := if v.S = k then 0 else v.S }
def Vw.mrk (v : Vw) (n : Int) (c : Bool) : Vw := { v with m := fun q => if q = n then some (c || v.m n == some true) else v.m q }
def Vw.scp (v : Vw) (k : Int) : Vw := { v with S := k }
def Vw.note (v : Vw) (x : Nte) : Vw := { v with B := v.B ++ [x] }
/-- What the bindings from number j on put back at a place, or else c. -/
def back (l : List Nte) (j : Nat) (k n : Int) (c : Cel) : Cel := (((l.drop j).find? fun x => n == x.n && k == x.s).map (·.c)).getD c
def Vw.unb (v : Vw) (j : Nat) : Vw := { v with d := fun n => back v.B j 0 n (v.d n), l := fun k n => (v.l k n).map (back v.B j k n), B := v.B.take j }

theorem back_end (l : List Nte) (k n : Int) (c : Cel) : back l l.length k n c = c := by simp [back]
theorem back_step {l : List Nte} {j : Nat} {x : Nte} (hx : l[j]? = some x) (k n : Int) (c : Cel) : back l j k n c = if k = x.s ∧ n = x.n then x.c else back l (j + 1) k n c := by
  obtain ⟨hj, he⟩ := List.getElem?_eq_some_iff.1 hx
  unfold back
  rw [List.drop_eq_getElem_cons hj, he, List.find?_cons]
  by_cases hm : k = x.s ∧ n = x.n
  · obtain ⟨rfl, rfl⟩ := hm
    simp
  · rw [if_neg hm]
    have : (n == x.n && k == x.s) = false := by
      rw [Bool.and_eq_false_iff]
      by_cases h1 : n = x.n
      · exact .inr (by simpa using fun e => hm ⟨e, h1⟩)
      · exact .inl (by simpa using h1)
    rw [this]

theorem Vw.ext {a b : Vw} (h1 : a.d = b.d) (h2 : a.l = b.l) (h3 : a.m = b.m) (h4 : a.B = b.B) (h5 : a.S = b.S) : a = b := by
  cases a; cases b; cases h1; cases h2; cases h3; cases h4; cases h5; rfl

/-! ### The state and its view -/
section
variable {W w w' : World} {b : Vb} {s : Vst} {R : Heap}
theorem view_d (s : Vst) (n : Int) : s.view.d n = s.dflt n := rfl
theorem view_l (s : Vst) (k n : Int) : s.view.l k n = (s.lcl k n).map (·.c) := rfl
theorem view_chg (s : Vst) (n : Int) : s.view.chg n = chgV s n := rfl
theorem view_now (s : Vst) (n : Int) : s.view.now n = s.now n := by
  unfold Vw.now Vst.now
  rw [view_l]
  show ((s.lcl s.scope n).map (·.c)).getD (s.dflt n) = _
  cases s.lcl s.scope n <;> rfl
theorem fnd_none {l : List Ent} {n : Int} (h : fnd l n = none) {e : Ent} (he : e ∈ l) : e.n ≠ n := fun e1 => by
  have := List.find?_eq_none.1 h e he
  simp [e1] at this
theorem fnd_of {l : List Ent} {n : Int} {e : Ent} (he : e ∈ l) (hn : e.n = n) : (fnd l n).isSome = true := by
  unfold fnd
  rw [List.find?_isSome]
  exact ⟨e, he, by simp [hn]⟩
theorem view_ok (h : s.Ok) : s.view.Ok := by
  refine ⟨fun k n hk => ?_, fun n hn => ?_, h.sc, h.ns, h.nl⟩
  · rw [view_l, Option.isSome_map] at hk
    cases hx : fndL s.locs k with
    | none => unfold Vst.lcl Vst.inner at hk; rw [hx] at hk; simp [fnd] at hk
    | some x =>
      rw [lcl_eq hx] at hk
      cases he : fnd x.es n with
      | none => rw [he] at hk; cases hk
      | some e =>
        obtain ⟨h1, rfl⟩ := fndL_mem hx
        obtain ⟨h2, rfl⟩ := fnd_mem he
        exact ⟨h.lr x h1, (h.en x h1).2 e h2⟩
  · rw [view_d]
    unfold Vst.dflt
    cases he : fnd s.defs n with
    | none => rfl
    | some e =>
      obtain ⟨h2, rfl⟩ := fnd_mem he
      exact absurd (h.dr e h2) hn
theorem VZ.ok {vb : Nat} {v : Vw} (h : VZ W w vb v R) : v.Ok := by
  obtain ⟨b, s, _, _, h1, rfl⟩ := h.at_
  exact view_ok h1
theorem glob_view (s : Vst) (n : Int) (g : Nat) : (s.glob n g).view = s.view := by
  refine Vw.ext (funext fun m => dflt_glob s n g m) (funext fun k => funext fun m => ?_) ?_ (glob_notes s n g) (glob_scope s n g)
  · rw [view_l, view_l, glob_lcl]
  · show fndM (s.glob n g).marks = _
    rw [glob_marks]
    rfl
theorem placed_view (s : Vst) (n : Int) (g : Nat) : (s.placed n g).view = s.view := by
  rcases placed_or s n g with e | e <;> rw [e]
  exact glob_view s n g
theorem glob_ok (h : s.Ok) {n : Int} (hn : 0 ≤ n ∧ n < 16384) (g : Nat) : (s.glob n g).Ok := by
  unfold Vst.glob
  split
  · exact h
  · next he =>
    simp only [Bool.not_eq_true, Option.isSome_eq_false_iff, Option.isNone_iff_eq_none] at he
    refine ⟨?_, ?_, h.ln, h.lr, h.en, h.sc, h.ns, h.nl⟩
    · show ((s.defs ++ [(⟨n, g, Cel.zero⟩ : Ent)]).map (·.n)).Nodup
      rw [List.map_append, List.nodup_append]
      refine ⟨h.dn, by simp, fun a ha b hb => ?_⟩
      obtain ⟨e, h1, rfl⟩ := List.mem_map.1 ha
      obtain rfl : b = n := by simpa using hb
      exact fnd_none he h1
    · intro e h1
      rcases List.mem_append.1 h1 with h1 | h1
      · exact h.dr e h1
      · obtain rfl := List.mem_singleton.1 h1
        exact hn
theorem placed_ok (h : s.Ok) {n : Int} (hn : 0 ≤ n ∧ n < 16384) (g : Nat) : (s.placed n g).Ok := by
  rcases placed_or s n g with e | e <;> rw [e]
  · exact h
  · exact glob_ok h hn g
theorem updL_ns (l : List Ent) (g : Nat) (c : Cel) : (updL l g c).map (·.n) = l.map (·.n) := by
  simp only [updL, List.map_map]
  refine List.map_congr_left fun e _ => ?_
  simp only [Function.comp]
  split <;> rfl
theorem updL_mem {l : List Ent} {g : Nat} {c : Cel} {e : Ent} (h : e ∈ updL l g c) : ∃ e' ∈ l, e'.n = e.n := by
  obtain ⟨e', h1, h2⟩ := List.mem_map.1 h
  refine ⟨e', h1, ?_⟩
  rw [← h2]
  split <;> rfl
theorem upd_ok (h : s.Ok) (g : Nat) (c : Cel) : (s.upd g c).Ok := by
  refine ⟨?_, fun e he => ?_, ?_, fun x hx => ?_, fun x hx => ?_, h.sc, h.ns, h.nl⟩
  · show ((updL s.defs g c).map (·.n)).Nodup
    rw [updL_ns]
    exact h.dn
  · obtain ⟨e', h1, h2⟩ := updL_mem he
    rw [← h2]
    exact h.dr e' h1
  · show ((updX s.locs g c).map (·.k)).Nodup
    have : (updX s.locs g c).map (·.k) = s.locs.map (·.k) := by simp [updX, Function.comp_def]
    rw [this]
    exact h.ln
  · obtain ⟨y, hy, rfl⟩ := List.mem_map.1 hx
    exact h.lr y hy
  · obtain ⟨y, hy, rfl⟩ := List.mem_map.1 hx
    refine ⟨?_, fun e he => ?_⟩
    · show ((updL y.es g c).map (·.n)).Nodup
      rw [updL_ns]
      exact (h.en y hy).1
    · obtain ⟨e', h1, h2⟩ := updL_mem he
      rw [← h2]
      exact (h.en y hy).2 e' h1
theorem put_zero (v : Vw) (n : Int) (c : Cel) : v.put 0 n c = { v with d := fun q => if q = n then c else v.d q } := if_pos rfl
theorem put_scope {v : Vw} {k : Int} (hk : k ≠ 0) (n : Int) (c : Cel) : v.put k n c = { v with l := fun j q => if j = k ∧ q = n then some c else v.l j q } := if_neg hk
/-- A default's cell turns. -/
theorem upd_def {g : Nat} {c c0 : Cel} {n : Int} (h : VarsAt W w b (s.upd g c) R) (hf : fnd s.defs n = some ⟨n, g, c0⟩) : (s.upd g c).view = s.view.put 0 n c := by
  rw [put_zero]
  refine Vw.ext (funext fun m => ?_) (funext fun k => funext fun m => ?_) rfl rfl rfl
  · have hnd := h.defs_nodup
    rw [upd_blocks] at hnd
    exact dflt_upd hnd hf c m
  · show ((s.upd g c).lcl k m).map (·.c) = (s.lcl k m).map (·.c)
    unfold Vst.lcl Vst.inner
    show Option.map (·.c) (fnd (((fndL (updX s.locs g c) k).map (·.es)).getD []) m) = _
    rw [h.updX_absent hf]
theorem fndL_updX (g : Nat) (c : Cel) (k : Int) : ∀ l : List Loc, fndL (updX l g c) k = (fndL l k).map fun x => { x with es := updL x.es g c }
  | [] => rfl
  | x :: l => by
    have ih := fndL_updX g c k l
    simp only [fndL, updX] at ih
    simp only [fndL, updX, List.map_cons, List.find?_cons]
    split
    · rfl
    · exact ih
theorem lcl_updE (s : Vst) (g : Nat) (c : Cel) (k n : Int) : (s.upd g c).lcl k n = (s.lcl k n).map fun e => if e.g = g then { e with c := c } else e := by
  unfold Vst.lcl Vst.inner
  show fnd (((fndL (updX s.locs g c) k).map (·.es)).getD []) n = _
  rw [fndL_updX]
  cases fndL s.locs k with
  | none => rfl
  | some x => exact fnd_updL g c n x.es
/-- Where a local cell's block lies. -/
theorem lcl_split {k n : Int} {e : Ent} (he : s.lcl k n = some e) : ∃ x, fndL s.locs k = some x ∧ fnd x.es n = some e := by
  cases hx : fndL s.locs k with
  | none => unfold Vst.lcl Vst.inner at he; rw [hx] at he; simp [fnd] at he
  | some x => rw [lcl_eq hx] at he; exact ⟨x, rfl, he⟩
theorem flat_sub {α β : Type} {f g : α → List β} (h : ∀ x, (f x).Sublist (g x)) : ∀ l : List α, (l.flatMap f).Sublist (l.flatMap g)
  | [] => List.Sublist.refl _
  | x :: l => by
    rw [List.flatMap_cons, List.flatMap_cons]
    exact (h x).append (flat_sub h l)
theorem flat_mem {α β : Type} {f : α → List β} {x : α} : ∀ {l : List α}, x ∈ l → (f x).Sublist (l.flatMap f)
  | y :: l, h => by
    rw [List.flatMap_cons]
    rcases List.mem_cons.1 h with rfl | h
    · exact List.sublist_append_left _ _
    · exact (flat_mem h).trans (List.sublist_append_right _ _)
theorem nodup_flat {α : Type} {f : α → List Nat} {l : List α} (h : (l.flatMap f).Nodup) {x y : α} (hx : x ∈ l) (hy : y ∈ l) {g : Nat} (h1 : g ∈ f x) (h2 : g ∈ f y) : x = y := by
  induction l with
  | nil => cases hx
  | cons a t ih =>
    rw [List.flatMap_cons, List.nodup_append] at h
    rcases List.mem_cons.1 hx with rfl | hx'
    · rcases List.mem_cons.1 hy with rfl | hy'
      · rfl
      · exact absurd rfl (h.2.2 g h1 g (List.mem_flatMap.2 ⟨y, hy', h2⟩))
    · rcases List.mem_cons.1 hy with rfl | hy'
      · exact absurd rfl (h.2.2 g h2 g (List.mem_flatMap.2 ⟨x, hx', h1⟩))
      · exact ih h.2.1 hx' hy'
theorem loc_blocks (h : VarsAt W w b s R) : (s.locs.flatMap fun x => x.es.map (·.g)).Nodup ∧ (∀ e ∈ s.defs, ∀ x ∈ s.locs, ∀ f ∈ x.es, e.g ≠ f.g) := by
  have h1 := h.own.left.right.nod
  refine ⟨?_, fun e he x hx f hf eg => ?_⟩
  · have h2 := h.own.left.right.right.left.nod
    have hs : (s.locs.flatMap fun x => x.es.map (·.g)).Sublist (Heap.blocks (locHeap s.locs)) := by
      unfold Heap.blocks locHeap
      rw [List.map_flatMap]
      refine flat_sub (fun x => ?_) _
      simp only [List.map_cons, entHeap, List.map_map]
      exact List.sublist_cons_self ..
    exact hs.nodup h2
  · refine nodup_sep h1 (g := e.g) (List.mem_map.2 ⟨_, List.mem_map.2 ⟨e, he, rfl⟩, rfl⟩) ?_
    rw [eg, Heap.blocks_append]
    exact List.mem_append_left _ (List.mem_map.2 ⟨(f.g, celA f.c), List.mem_flatMap.2 ⟨x, hx, List.mem_cons_of_mem _ (List.mem_map.2 ⟨f, hf, rfl⟩)⟩, rfl⟩)
/-- A local cell turns. -/
theorem upd_loc {k n : Int} {e : Ent} (h : VarsAt W w b s R) (ok : s.Ok) (he : s.lcl k n = some e) (c : Cel) : (s.upd e.g c).view = s.view.put k n c := by
  obtain ⟨x, hx, hxe⟩ := lcl_split he
  obtain ⟨hxm, rfl⟩ := fndL_mem hx
  obtain ⟨hem, rfl⟩ := fnd_mem hxe
  have hk : x.k ≠ 0 := by have := ok.lr x hxm; omega
  obtain ⟨hnd, hsep⟩ := loc_blocks h
  rw [put_scope hk]
  refine Vw.ext (funext fun m => ?_) (funext fun j => funext fun q => ?_) rfl rfl rfl
  · show ((fnd (updL s.defs e.g c) m).map (·.c)).getD Cel.zero = s.dflt m
    rw [updL_absent fun d hd => hsep d hd x hxm e hem]
    rfl
  · show ((s.upd e.g c).lcl j q).map (·.c) = if j = x.k ∧ q = e.n then some c else (s.lcl j q).map (·.c)
    rw [lcl_updE]
    by_cases hj : j = x.k ∧ q = e.n
    · obtain ⟨rfl, rfl⟩ := hj
      rw [if_pos ⟨rfl, rfl⟩, he]
      simp
    · rw [if_neg hj]
      cases hy : s.lcl j q with
      | none => rfl
      | some f =>
        obtain ⟨y, hy1, hy2⟩ := lcl_split hy
        obtain ⟨hym, rfl⟩ := fndL_mem hy1
        obtain ⟨hfm, rfl⟩ := fnd_mem hy2
        have hne : f.g ≠ e.g := fun eg => by
          have h1 : y = x := nodup_flat hnd hym hxm (g := f.g) (List.mem_map.2 ⟨f, hfm, rfl⟩) (List.mem_map.2 ⟨e, hem, eg.symm⟩)
          subst h1
          have h2 : (y.es.map (·.g)).Nodup := (flat_mem (f := fun x : Loc => x.es.map (·.g)) hym).nodup hnd
          have h3 := nodup_inj h2 hfm hem eg
          subst h3
          exact hj ⟨rfl, rfl⟩
        simp [hne]
end
end Go.Proofs.Ytempnakdpmmmoaa
