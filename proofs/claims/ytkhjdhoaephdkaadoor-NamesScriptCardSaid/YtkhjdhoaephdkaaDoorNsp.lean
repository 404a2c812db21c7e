/- The reference's properties in ascending order, and the table's: plain laws. No condition but those written. -/
import Derived.Test.YtkhjdhoaephdkaaDoorNamPropsW
namespace Go.Proofs.YtkhjdhoaephdkaaDoor
open Go.RowKit

def asc (l : List (Int × Int × Int)) : Prop := l.Pairwise fun a b => a.1 < b.1
def rins (key k m : Int) : List (Int × Int × Int) → List (Int × Int × Int)
  | [] => [(key, k, m)]
  | x :: l => if key ≤ x.1 then (key, k, m) :: (x :: l).filter (fun y => decide (y.1 ≠ key)) else x :: rins key k m l
theorem pget_hit {l : List (Int × Int × Int)} {x : Int × Int × Int} (h : (l.map (·.1)).Nodup) (hx : x ∈ l) : pget l x.1 = some x.2 := by
  induction l with
  | nil => cases hx
  | cons y l ih =>
    unfold pget
    rw [List.find?_cons]
    rw [List.map_cons, List.nodup_cons] at h
    rcases List.mem_cons.1 hx with rfl | hx
    · simp
    · have hne : (x.1 == y.1) = false := by
        simp only [beq_eq_false_iff_ne, ne_eq]
        intro e
        exact h.1 (List.mem_map.2 ⟨x, hx, e⟩)
      rw [hne]
      exact ih h.2 hx
theorem pget_miss {l : List (Int × Int × Int)} {k : Int} (h : k ∉ l.map (·.1)) : pget l k = none := by
  unfold pget
  rw [Option.map_eq_none_iff, List.find?_eq_none]
  intro x hx
  simp only [beq_iff_eq]
  intro e
  exact h (List.mem_map.2 ⟨x, hx, e.symm⟩)
theorem pget_perm {l m : List (Int × Int × Int)} (hp : l.Perm m) (h : (l.map (·.1)).Nodup) (k : Int) : pget l k = pget m k := by
  have hm : (m.map (·.1)).Nodup := (hp.map _).nodup_iff.1 h
  by_cases hk : k ∈ l.map (·.1)
  · obtain ⟨x, hx, rfl⟩ := List.mem_map.1 hk
    rw [pget_hit h hx, pget_hit hm (hp.mem_iff.1 hx)]
  · rw [pget_miss hk, pget_miss fun h2 => hk ((hp.map _).mem_iff.2 h2)]
theorem sortP_perm {l : List (Int × Int × Int)} (h : (l.map (·.1)).Nodup) : (sortP l).Perm l := by
  have e : l = (l.map (·.1)).map fun k => (k, (pget l k).getD (0, 0)) := by
    rw [List.map_map]
    conv => lhs; rw [← List.map_id l]
    refine List.map_congr_left fun x hx => ?_
    show x = (x.1, (pget l x.1).getD (0, 0))
    rw [pget_hit h hx]
    rfl
  conv => rhs; rw [e]
  exact (List.mergeSort_perm _ _).map _
theorem sortP_asc {l : List (Int × Int × Int)} (h : (l.map (·.1)).Nodup) : asc (sortP l) := by
  unfold asc sortP
  rw [List.pairwise_map]
  have hs : ((l.map (·.1)).mergeSort leI).Pairwise (fun a b => leI a b = true) := List.pairwise_mergeSort (fun a b c h1 h2 => by simp [leI] at *; omega) (fun a b => by simp [leI]; omega) _
  have hn : ((l.map (·.1)).mergeSort leI).Nodup := (List.mergeSort_perm _ _).nodup_iff.2 h
  refine (hs.and hn).imp ?_
  rintro a b ⟨h1, h2⟩
  simp [leI] at h1
  show a < b
  omega
theorem asc_eq {l m : List (Int × Int × Int)} (hl : asc l) (hm : asc m) (hp : l.Perm m) : l = m :=
  hp.eq_of_pairwise (fun a b _ _ h1 h2 => absurd h1 (by omega)) hl hm
theorem rins_mem {key k m : Int} : ∀ {l : List (Int × Int × Int)} {x : Int × Int × Int}, x ∈ rins key k m l → x = (key, k, m) ∨ x ∈ l
  | [], x, h => by simp [rins] at h; exact .inl h
  | y :: l, x, h => by
    unfold rins at h
    split at h
    · rcases List.mem_cons.1 h with h | h
      · exact .inl h
      · exact .inr (List.mem_filter.1 h).1
    · rcases List.mem_cons.1 h with h | h
      · exact .inr (h ▸ List.mem_cons_self ..)
      · rcases rins_mem h with h | h
        · exact .inl h
        · exact .inr (List.mem_cons_of_mem _ h)
theorem rins_asc {key k m : Int} : ∀ {l : List (Int × Int × Int)}, asc l → asc (rins key k m l)
  | [], _ => by simp [asc, rins]
  | y :: l, h => by
    unfold asc at h ⊢
    rw [List.pairwise_cons] at h
    unfold rins
    split
    · rename_i hk
      rw [List.pairwise_cons]
      refine ⟨fun z hz => ?_, (List.pairwise_cons.2 h).sublist List.filter_sublist⟩
      obtain ⟨h1, h2⟩ := List.mem_filter.1 hz
      simp at h2
      rcases List.mem_cons.1 h1 with rfl | h1
      · show key < z.1
        omega
      · have := h.1 z h1
        show key < z.1
        omega
    · rename_i hk
      rw [List.pairwise_cons]
      refine ⟨fun z hz => ?_, rins_asc h.2⟩
      rcases rins_mem hz with rfl | hz
      · show y.1 < key
        omega
      · exact h.1 z hz
theorem rins_perm {key k m : Int} : ∀ {l : List (Int × Int × Int)}, (rins key k m l).Perm ((key, k, m) :: l.filter (fun y => decide (y.1 ≠ key)))
  | [] => by simp [rins]
  | y :: l => by
    unfold rins
    split
    · exact List.Perm.refl _
    · rename_i hk
      rw [List.filter_cons_of_pos (by simp; omega)]
      exact (rins_perm.cons y).trans (List.Perm.swap _ _ _)
theorem pput_perm {key k m : Int} : ∀ {l : List (Int × Int × Int)}, (l.map (·.1)).Nodup → (pput l key k m).Perm ((key, k, m) :: l.filter (fun y => decide (y.1 ≠ key)))
  | [], _ => by simp [pput]
  | y :: l, h => by
    rw [List.map_cons, List.nodup_cons] at h
    unfold pput
    split
    · rename_i hk
      have hk : key = y.1 := by simpa using hk
      rw [List.filter_cons_of_neg (by simp [hk]), List.filter_eq_self.2]
      intro z hz
      simp only [ne_eq, decide_not, Bool.not_eq_true', decide_eq_false_iff_not]
      intro e
      exact h.1 (List.mem_map.2 ⟨z, hz, e.trans hk⟩)
    · rename_i hk
      have hk : ¬ key = y.1 := by simpa using hk
      rw [List.filter_cons_of_pos (by simp; omega)]
      exact ((pput_perm h.2).cons y).trans (List.Perm.swap _ _ _)
theorem pput_nodup {key k m : Int} {l : List (Int × Int × Int)} (h : (l.map (·.1)).Nodup) : ((pput l key k m).map (·.1)).Nodup := by
  refine ((pput_perm h).map (·.1)).nodup_iff.2 ?_
  rw [List.map_cons, List.nodup_cons]
  refine ⟨fun hm => ?_, (List.Sublist.map (fun x : Int × Int × Int => x.1) List.filter_sublist).nodup h⟩
  obtain ⟨x, hx, e⟩ := List.mem_map.1 hm
  have := (List.mem_filter.1 hx).2
  simp at this
  exact this e
/-- A property set on either side. -/
theorem rins_sort {l : List (Int × Int × Int)} (h : (l.map (·.1)).Nodup) (key k m : Int) : rins key k m (sortP l) = sortP (pput l key k m) := by
  refine asc_eq (rins_asc (sortP_asc h)) (sortP_asc (pput_nodup h)) ?_
  refine rins_perm.trans (List.Perm.trans ?_ (sortP_perm (pput_nodup h)).symm)
  exact (((sortP_perm h).filter _).cons _).trans (pput_perm h).symm
/-- A property read on either side. -/
theorem pget_sort {l : List (Int × Int × Int)} (h : (l.map (·.1)).Nodup) (k : Int) : pget (sortP l) k = pget l k := pget_perm (sortP_perm h) (((sortP_perm h).map _).nodup_iff.2 h) k
/-- What the loop has made so far, and what it will make. -/
def rfin (key k m : Int) (out : List (Int × Int × Int)) (put : Bool) (rest : List (Int × Int × Int)) : List (Int × Int × Int) := if put then out ++ rest.filter (fun y => decide (y.1 ≠ key)) else out ++ rins key k m rest
theorem rfin_put {key k m : Int} {out rest : List (Int × Int × Int)} {x : Int × Int × Int} (h : key < x.1) : rfin key k m out false (x :: rest) = rfin key k m (out ++ [(key, k, m)] ++ [x]) true rest := by
  unfold rfin rins
  rw [if_neg (by simp), if_pos (by omega), if_pos rfl, List.filter_cons_of_pos (by simp; omega)]
  simp
theorem rfin_same {key k m : Int} {out rest : List (Int × Int × Int)} {x : Int × Int × Int} (h : x.1 = key) : rfin key k m out false (x :: rest) = rfin key k m (out ++ [(key, k, m)]) true rest := by
  unfold rfin rins
  rw [if_neg (by simp), if_pos (by omega), if_pos rfl, List.filter_cons_of_neg (by simp [h])]
  simp
theorem rfin_low {key k m : Int} {out rest : List (Int × Int × Int)} {x : Int × Int × Int} (h : x.1 < key) : rfin key k m out false (x :: rest) = rfin key k m (out ++ [x]) false rest := by
  unfold rfin
  rw [if_neg (by simp), if_neg (by simp), rins, if_neg (by omega)]
  simp
theorem rfin_on {key k m : Int} {out rest : List (Int × Int × Int)} {x : Int × Int × Int} (h : x.1 ≠ key) : rfin key k m out true (x :: rest) = rfin key k m (out ++ [x]) true rest := by
  unfold rfin
  rw [if_pos rfl, if_pos rfl, List.filter_cons_of_pos (by simpa using h)]
  simp
theorem rfin_off {key k m : Int} {out rest : List (Int × Int × Int)} {x : Int × Int × Int} (h : x.1 = key) : rfin key k m out true (x :: rest) = rfin key k m out true rest := by
  unfold rfin
  rw [if_pos rfl, if_pos rfl, List.filter_cons_of_neg (by simp [h])]
theorem rfin_end {key k m : Int} {out : List (Int × Int × Int)} (put : Bool) : rfin key k m out put [] = if put then out else out ++ [(key, k, m)] := by
  cases put <;> simp [rfin, rins]
theorem rins_len {key k m : Int} {l : List (Int × Int × Int)} : (rins key k m l).length ≤ l.length + 1 := by
  rw [rins_perm.length_eq, List.length_cons]
  have := (List.filter_sublist (p := fun y : Int × Int × Int => decide (y.1 ≠ key)) (l := l)).length_le
  omega
end Go.Proofs.YtkhjdhoaephdkaaDoor
