/- Variables: Values as a function of the view. No condition but those written. -/
import Derived.Test.YtempnakdpmmmoaaVgp
namespace Go.Proofs.Ytempnakdpmmmoaa
open Go.RowKit

/-- All values: defaults, local values by scopes, what bindings put back. -/
def valsV (v : Vw) : List (Int × Int) :=
  ((List.range 16384).filterMap fun n : Nat => wOf (v.d (n : Int))) ++ ((List.range 65536).flatMap fun k : Nat => (List.range 16384).filterMap fun n : Nat => (v.l ((1 + k : Nat) : Int) (n : Int)).bind wOf) ++ v.B.filterMap fun x => wOf x.c
theorem fm_congr {α β : Type} {f g : α → Option β} : ∀ {l : List α}, (∀ x ∈ l, f x = g x) → l.filterMap f = l.filterMap g
  | [], _ => rfl
  | x :: l, h => by
    rw [List.filterMap_cons, List.filterMap_cons, h x (List.mem_cons_self ..), fm_congr fun y hy => h y (List.mem_cons_of_mem _ hy)]
theorem perm_of_mem {l m : List Int} (h1 : l.Nodup) (h2 : m.Nodup) (h : ∀ x, x ∈ l ↔ x ∈ m) : l.Perm m :=
  (List.perm_ext_iff_of_nodup h1 h2).2 h
theorem srt_range {l : List Int} (hn : l.Nodup) {a N : Nat} (h : ∀ x ∈ l, (a : Int) ≤ x ∧ x < (a : Int) + N) : l.mergeSort leI = ((List.range N).map fun i => ((a + i : Nat) : Int)).filter fun x => decide (x ∈ l) := by
  have tr : ∀ a b c : Int, leI a b = true → leI b c = true → leI a c = true := fun a b c h1 h2 => by simp only [leI, decide_eq_true_eq] at *; exact Int.le_trans h1 h2
  have tt : ∀ a b : Int, (leI a b || leI b a) = true := fun a b => by simp only [leI, Bool.or_eq_true, decide_eq_true_eq]; exact Int.le_total a b
  have hp : ((List.range N).map fun i => ((a + i : Nat) : Int)).Pairwise (· < ·) := by
    refine List.Pairwise.map _ (fun x y hxy => ?_) List.pairwise_lt_range
    omega
  refine List.Perm.eq_of_pairwise (le := fun a b => leI a b = true) (fun x y _ _ h1 h2 => ?_) (List.pairwise_mergeSort tr tt l) ?_ ((List.mergeSort_perm l leI).trans (perm_of_mem hn ?_ fun x => ?_))
  · simp only [leI, decide_eq_true_eq] at h1 h2
    exact Int.le_antisymm h1 h2
  · refine (hp.filter _).imp fun h => ?_
    simp only [leI, decide_eq_true_eq]
    exact Int.le_of_lt h
  · exact (hp.filter _).imp fun h => Int.ne_of_lt h
  · rw [List.mem_filter, decide_eq_true_eq]
    refine ⟨fun hx => ⟨List.mem_map.2 ⟨(x - a).toNat, ?_, ?_⟩, hx⟩, fun h => h.2⟩
    · have := h x hx
      rw [List.mem_range]
      omega
    · have := h x hx
      omega
theorem fm_range {l : List Int} (hn : l.Nodup) {a N : Nat} (h : ∀ x ∈ l, (a : Int) ≤ x ∧ x < (a : Int) + N) {β : Type} (f : Int → Option β) (hf : ∀ x, x ∉ l → f x = none) : (l.mergeSort leI).filterMap f = (List.range N).filterMap fun i => f ((a + i : Nat) : Int) := by
  rw [srt_range hn h, List.filterMap_filter, List.filterMap_map]
  refine fm_congr fun i _ => ?_
  show (if decide (((a + i : Nat) : Int) ∈ l) = true then f _ else none) = f _
  by_cases hx : ((a + i : Nat) : Int) ∈ l
  · rw [if_pos (by simpa using hx)]
  · rw [if_neg (by simpa using hx), hf _ hx]
theorem flat_filter {α β : Type} (p : α → Bool) (f : α → List β) : ∀ l : List α, (l.filter p).flatMap f = l.flatMap fun x => if p x then f x else []
  | [] => rfl
  | x :: l => by
    have ih := flat_filter p f l
    rw [List.filter_cons, List.flatMap_cons]
    by_cases hp : p x = true
    · rw [if_pos hp, if_pos hp, List.flatMap_cons, ih]
    · rw [if_neg hp, if_neg hp, ih]
      rfl
theorem fm_flatR {l : List Int} (hn : l.Nodup) {a N : Nat} (h : ∀ x ∈ l, (a : Int) ≤ x ∧ x < (a : Int) + N) {β : Type} (f : Int → List β) (hf : ∀ x, x ∉ l → f x = []) : (l.mergeSort leI).flatMap f = (List.range N).flatMap fun i => f ((a + i : Nat) : Int) := by
  rw [srt_range hn h, flat_filter, List.flatMap_map]
  have e : ∀ i : Nat, (if decide (((a + i : Nat) : Int) ∈ l) = true then f ((a + i : Nat) : Int) else []) = f ((a + i : Nat) : Int) := fun i => by
    by_cases hx : ((a + i : Nat) : Int) ∈ l
    · rw [if_pos (by simpa using hx)]
    · rw [if_neg (by simpa using hx), hf _ hx]
  simp only [e]
theorem zero_wOf : wOf Cel.zero = none := rfl
theorem valsA {s : Vst} (ok : s.Ok) (N : Nat) (hN : N = 16384) : fmW (celD s) = (List.range N).filterMap fun n : Nat => wOf (s.view.d (n : Int)) := by
  unfold fmW celD keysD
  rw [List.filterMap_map, fm_range (a := 0) (N := N) ok.dn (fun x hx => ?_) _ (fun x hx => ?_)]
  · refine fm_congr fun i _ => ?_
    show wOf (s.dflt ((0 + i : Nat) : Int)) = wOf (s.dflt (i : Int))
    rw [Nat.zero_add]
  · obtain ⟨e, he, rfl⟩ := List.mem_map.1 hx
    have := ok.dr e he
    omega
  · show wOf (s.dflt x) = none
    have : fnd s.defs x = none := by
      cases hf : fnd s.defs x with
      | none => rfl
      | some e => exact absurd (List.mem_map.2 ⟨e, (fnd_mem hf).1, (fnd_mem hf).2⟩) hx
    unfold Vst.dflt
    rw [this]
    rfl
theorem valsI {s : Vst} (ok : s.Ok) (N : Nat) (hN : N = 16384) (k : Int) : (celI s k).filterMap wOf = (List.range N).filterMap fun n : Nat => (s.view.l k (n : Int)).bind wOf := by
  unfold celI keysE
  have hi : ((s.inner k).map (·.n)).Nodup ∧ ∀ e ∈ s.inner k, 0 ≤ e.n ∧ e.n < 16384 := by
    unfold Vst.inner
    cases hx : fndL s.locs k with
    | none => exact ⟨by simp, fun e he => by simp at he⟩
    | some x => exact ok.en x (fndL_mem hx).1
  rw [List.filterMap_map, fm_range (a := 0) (N := N) hi.1 (fun x hx => ?_) _ (fun x hx => ?_)]
  · refine fm_congr fun i _ => ?_
    show wOf (celK s k ((0 + i : Nat) : Int)) = ((s.lcl k (i : Int)).map (·.c)).bind wOf
    rw [Nat.zero_add]
    unfold celK
    cases s.lcl k (i : Int) <;> rfl
  · obtain ⟨e, he, rfl⟩ := List.mem_map.1 hx
    have := hi.2 e he
    omega
  · show wOf (celK s k x) = none
    have : s.lcl k x = none := by
      unfold Vst.lcl
      cases hf : fnd (s.inner k) x with
      | none => rfl
      | some e => exact absurd (List.mem_map.2 ⟨e, (fnd_mem hf).1, (fnd_mem hf).2⟩) hx
    unfold celK
    rw [this]
    rfl
theorem valsB {s : Vst} (ok : s.Ok) (N M : Nat) (hN : N = 16384) (hM : M = 65536) : fmW ((keysL s).flatMap (celI s)) = (List.range M).flatMap fun k : Nat => (List.range N).filterMap fun n : Nat => (s.view.l ((1 + k : Nat) : Int) (n : Int)).bind wOf := by
  unfold fmW keysL
  rw [List.filterMap_flatMap, fm_flatR (a := 1) (N := M) ok.ln (fun x hx => ?_) _ (fun x hx => ?_)]
  · simp only [valsI ok N hN]
  · obtain ⟨e, he, rfl⟩ := List.mem_map.1 hx
    have := ok.lr e he
    omega
  · have : s.inner x = [] := by
      unfold Vst.inner
      cases hf : fndL s.locs x with
      | none => rfl
      | some e => exact absurd (List.mem_map.2 ⟨e, (fndL_mem hf).1, (fndL_mem hf).2⟩) hx
    unfold celI
    rw [this]
    simp [keysE]
theorem vals_view {s : Vst} (ok : s.Ok) : valsS s = valsV s.view := by
  unfold valsS valsV
  rw [valsA ok 16384 rfl, valsB ok 16384 65536 rfl rfl, show fmW (s.notes.map (·.c)) = s.view.B.filterMap fun x => wOf x.c from by unfold fmW; rw [List.filterMap_map]; rfl]
section
variable {W w w' : World} {vb : Nat} {v : Vw} {R : Heap}
theorem VZ.values (h : VZ W w vb v R) : Calls Try.prog 33 #[.pointer (some ⟨vb, 0, none⟩)] w fun r w' =>
    ∃ u, r = .returned u ∧ Sl w' 29 2 u (valsV v).length (rows wcel (valsV v)) ∧ (∀ g, u.ownBlock = some g → w.heap.size ≤ g) ∧ Below w.heap.size w w' := by
  obtain ⟨b, s, rfl, hV, ok, rfl⟩ := h.at_
  refine (values_any hV ok).mono ?_
  rintro r w' ⟨u, rfl, h1, h2, h3⟩
  rw [vals_view ok] at h1
  exact ⟨u, rfl, h1, h2, h3⟩
end
end Go.Proofs.Ytempnakdpmmmoaa
