/- Variables: Values, plainly; the sorted keys of a set's maps. No condition but those written. -/
import Derived.Test.YtempnakdpmmmoaaVgn
namespace Go.Proofs.Ytempnakdpmmmoaa
open Go.RowKit
attribute [local go_sem] neq_cells eql_cells

/-! ### Plainly -/
def keysD (s : Vst) : List Int := (s.defs.map (·.n)).mergeSort leI
def keysL (s : Vst) : List Int := (s.locs.map (·.k)).mergeSort leI
def keysE (es : List Ent) : List Int := (es.map (·.n)).mergeSort leI
def celK (s : Vst) (k n : Int) : Cel := ((s.lcl k n).map (·.c)).getD Cel.zero
def celD (s : Vst) : List Cel := (keysD s).map s.dflt
def celI (s : Vst) (k : Int) : List Cel := (keysE (s.inner k)).map (celK s k)
def fmW (l : List Cel) : List (Int × Int) := l.filterMap wOf
def valsS (s : Vst) : List (Int × Int) := fmW (celD s) ++ fmW ((keysL s).flatMap (celI s)) ++ fmW (s.notes.map (·.c))
theorem fm_step {P : List (Int × Int)} {L : List Cel} {i : Nat} {c : Cel} (h : L[i]? = some c) : addW (P ++ fmW (L.take i)) c = P ++ fmW (L.take (i + 1)) := by
  unfold addW fmW
  rw [List.take_add_one, h, List.filterMap_append, List.append_assoc]
  congr 2
theorem fm_flat (L : List Int) (f : Int → List Cel) (i : Nat) {k : Int} (h : L[i]? = some k) : fmW ((L.take i).flatMap f) ++ fmW (f k) = fmW ((L.take (i + 1)).flatMap f) := by
  unfold fmW
  rw [List.take_add_one, h, List.flatMap_append, List.filterMap_append]
  simp
theorem fm_len (l : List Cel) : (fmW l).length ≤ l.length := List.length_filterMap_le ..
theorem flat_len {α β : Type} {f : α → List β} {N : Nat} (h : ∀ x, (f x).length ≤ N) : ∀ l : List α, (l.flatMap f).length ≤ l.length * N
  | [] => by simp
  | x :: l => by
    have ih := flat_len h l
    have := h x
    rw [List.flatMap_cons, List.length_append, List.length_cons, Nat.add_mul]
    omega
/-- A list of different numbers below N has at most N of them. -/
theorem nat_len : ∀ (N : Nat) (l : List Nat), l.Nodup → (∀ x ∈ l, x < N) → l.length ≤ N
  | 0, l, _, h => by
    cases l with
    | nil => simp
    | cons x l => exact absurd (h x (List.mem_cons_self ..)) (by omega)
  | N + 1, l, hn, h => by
    have h1 := nat_len N (l.erase N) (hn.erase N) (fun x hx => by
      have h2 := (hn.mem_erase_iff).1 hx
      have := h x h2.2
      omega)
    have h2 : l.length - 1 ≤ (l.erase N).length := by
      rw [List.length_erase]
      split <;> omega
    omega
theorem int_len {l : List Int} (hn : l.Nodup) {a N : Nat} (h : ∀ x ∈ l, (a : Int) ≤ x ∧ x < (a : Int) + N) : l.length ≤ N := by
  have h1 := nat_len N (l.map fun x : Int => (x - a).toNat) (by
    refine List.Pairwise.map _ (fun x y hxy => ?_) (List.Pairwise.and_mem.1 hn)
    intro e
    have h2 := h x hxy.1
    have h3 := h y hxy.2.1
    exact hxy.2.2 (by omega)) (fun y hy => by
    obtain ⟨x, hx, rfl⟩ := List.mem_map.1 hy
    have := h x hx
    omega)
  simpa using h1
theorem defs_len {s : Vst} (ok : s.Ok) : s.defs.length ≤ 16384 := by
  have := int_len (a := 0) (N := 16384) ok.dn fun x hx => by
    obtain ⟨e, he, rfl⟩ := List.mem_map.1 hx
    have := ok.dr e he
    omega
  simpa using this
theorem locs_len {s : Vst} (ok : s.Ok) : s.locs.length ≤ 65536 := by
  have := int_len (a := 1) (N := 65536) ok.ln fun x hx => by
    obtain ⟨e, he, rfl⟩ := List.mem_map.1 hx
    have := ok.lr e he
    omega
  simpa using this
theorem inner_len {s : Vst} (ok : s.Ok) (k : Int) : (s.inner k).length ≤ 16384 := by
  unfold Vst.inner
  cases hx : fndL s.locs k with
  | none => simp
  | some x =>
    have h1 := ok.en x (fndL_mem hx).1
    have := int_len (a := 0) (N := 16384) h1.1 fun y hy => by
      obtain ⟨e, he, rfl⟩ := List.mem_map.1 hy
      have := h1.2 e he
      omega
    simpa using this
theorem keysD_len (s : Vst) : (keysD s).length = s.defs.length := by simp [keysD]
theorem keysL_len (s : Vst) : (keysL s).length = s.locs.length := by simp [keysL]
theorem keysE_len (es : List Ent) : (keysE es).length = es.length := by simp [keysE]
theorem celI_len {s : Vst} (ok : s.Ok) (k : Int) : (celI s k).length ≤ 16384 := by
  unfold celI
  rw [List.length_map, keysE_len]
  exact inner_len ok k
section
variable {W w w' : World} {b : Vb} {s : Vst} {R : Heap}
/-- A row of keys. -/
def KeysRow (w w' : World) (v : Value) (ks : List Int) : Prop := Sl w' 3 1 v ks.length (ks.map (Value.int .i64)) ∧ (∀ g, v.ownBlock = some g → w.heap.size ≤ g) ∧ Below w.heap.size w w'
theorem ent_pairs (l : List Ent) : entPairs l = (l.map fun e => (e.n, ptr e.g)).map fun x => (.int .i64 x.1, x.2) := by simp [entPairs, Function.comp_def]
theorem loc_pairs (l : List Loc) : locPairs l = (l.map fun e => (e.k, Value.map (some e.g))).map fun x => (.int .i64 x.1, x.2) := by simp [locPairs, Function.comp_def]
theorem keysE_any {g : Nat} {es : List Ent} (h : MapIs w g (entPairs es)) (hn : (es.map (·.n)).Nodup) (hr : ∀ e ∈ es, 0 ≤ e.n ∧ e.n < 16384) (hl : es.length ≤ 16384) :
    Calls Try.prog 43 #[.func (.func 53) #[] #[.pointer (some ⟨w.heap.size, 0, none⟩)]] (w.alloc (.cells #[.map (some g)] 52)) fun e w' => ∃ v, e = .returned v ∧ KeysRow w w' v (keysE es) := by
  rw [ent_pairs] at h
  refine (sortedA_fn g (es.map fun e => (e.n, ptr e.g)) w h (by simpa [Function.comp_def] using hn) (fun x hx => ?_) (by simp; omega)).mono ?_
  · obtain ⟨e, he, rfl⟩ := List.mem_map.1 hx
    have := hr e he
    exact int_wf (by show 0 ≤ e.n ∧ e.n ≤ 100000; omega)
  · rintro e w' ⟨v, rfl, h1, h2, h3⟩
    refine ⟨v, rfl, ?_, h2, h3⟩
    have e1 : ((es.map fun e => (e.n, ptr e.g)).map (·.1)) = es.map (·.n) := by simp [Function.comp_def]
    rw [e1, List.length_map] at h1
    unfold keysE
    rw [List.length_mergeSort, List.length_map]
    exact h1
theorem keysL_any (h : VarsAt W w b s R) (ok : s.Ok) :
    Calls Try.prog 43 #[.func (.func 55) #[] #[.pointer (some ⟨w.heap.size, 0, none⟩)]] (w.alloc (.cells #[.map (some b.lb)] 53)) fun e w' => ∃ v, e = .returned v ∧ KeysRow w w' v (keysL s) := by
  have hm := h.lb
  have hl := locs_len ok
  rw [loc_pairs] at hm
  refine (sortedB_fn b.lb (s.locs.map fun e => (e.k, Value.map (some e.g))) w hm (by simpa [Function.comp_def] using ok.ln) (fun x hx => ?_) (by simp; omega)).mono ?_
  · obtain ⟨e, he, rfl⟩ := List.mem_map.1 hx
    have := ok.lr e he
    exact int_wf (by show 0 ≤ e.k ∧ e.k ≤ 100000; omega)
  · rintro e w' ⟨v, rfl, h1, h2, h3⟩
    refine ⟨v, rfl, ?_, h2, h3⟩
    have e1 : ((s.locs.map fun e => (e.k, Value.map (some e.g))).map (·.1)) = s.locs.map (·.k) := by simp [Function.comp_def]
    rw [e1, List.length_map] at h1
    unfold keysL
    rw [List.length_mergeSort, List.length_map]
    exact h1
/-- A key's cell: the default. -/
theorem VarsAt.defAt (h : VarsAt W w b s R) {i : Nat} {n : Int} (hi : (keysD s)[i]? = some n) : ∃ g, (Instr.lookup 52 (.map (some b.db)) (.int .i64 n) false).run Try.prog w = .ok (ptr g) w ∧ Blk w g 60 (s.dflt n).cells.toArray := by
  have hm : n ∈ s.defs.map (·.n) := by have := List.mem_of_getElem? hi; simpa [keysD] using this
  obtain ⟨e, he, hn⟩ := List.mem_map.1 hm
  have hs := fnd_of he hn
  cases hf : fnd s.defs n with
  | none => rw [hf] at hs; cases hs
  | some e =>
    have hl := (h.db).lookup (P := Try.prog) (ent_keys s.defs) Try.underlying52 Try.underlying3 (.int _ n) (zero_ptr w) false
    rw [ent_get, hf] at hl
    refine ⟨e.g, hl, ?_⟩
    have hd := h.def_ (fnd_mem hf).1
    have : s.dflt n = e.c := by unfold Vst.dflt; rw [hf]; rfl
    rw [this]
    exact hd
theorem VarsAt.locAt (h : VarsAt W w b s R) {i : Nat} {k : Int} (hi : (keysL s)[i]? = some k) : ∃ x, fndL s.locs k = some x ∧ (Instr.lookup 53 (.map (some b.lb)) (.int .i64 k) false).run Try.prog w = .ok (.map (some x.g)) w := by
  have hm : k ∈ s.locs.map (·.k) := by have := List.mem_of_getElem? hi; simpa [keysL] using this
  obtain ⟨y, hy, hk⟩ := List.mem_map.1 hm
  have hs : (fndL s.locs k).isSome = true := by
    unfold fndL
    rw [List.find?_isSome]
    exact ⟨y, hy, by simp [hk]⟩
  cases hf : fndL s.locs k with
  | none => rw [hf] at hs; cases hs
  | some x =>
    have hl := (h.lb).lookup (P := Try.prog) (loc_keys s.locs) Try.underlying53 Try.underlying3 (.int _ k) (zero_map w) false
    rw [loc_get, hf] at hl
    exact ⟨x, rfl, hl⟩
theorem VarsAt.entAt (h : VarsAt W w b s R) {k : Int} {x : Loc} (hx : fndL s.locs k = some x) {i : Nat} {n : Int} (hi : (keysE x.es)[i]? = some n) : ∃ g, (Instr.lookup 52 (.map (some x.g)) (.int .i64 n) false).run Try.prog w = .ok (ptr g) w ∧ Blk w g 60 (celK s k n).cells.toArray := by
  have hm : n ∈ x.es.map (·.n) := by have := List.mem_of_getElem? hi; simpa [keysE] using this
  obtain ⟨e, he, hn⟩ := List.mem_map.1 hm
  have hs := fnd_of he hn
  cases hf : fnd x.es n with
  | none => rw [hf] at hs; cases hs
  | some e =>
    have hl := (h.loc (fndL_mem hx).1).lookup (P := Try.prog) (ent_keys x.es) Try.underlying52 Try.underlying3 (.int _ n) (zero_ptr w) false
    rw [ent_get, hf] at hl
    refine ⟨e.g, hl, ?_⟩
    have hd := h.ent (fndL_mem hx).1 (fnd_mem hf).1
    have : celK s k n = e.c := by unfold celK; rw [lcl_eq hx, hf]; rfl
    rw [this]
    exact hd
end
end Go.Proofs.Ytempnakdpmmmoaa
