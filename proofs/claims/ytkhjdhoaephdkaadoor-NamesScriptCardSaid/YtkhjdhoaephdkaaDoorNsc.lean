/- The reference's table: SetFunc, ClearFunc. No condition but those written. -/
import Derived.Test.YtkhjdhoaephdkaaDoorNsb
namespace Go.Proofs.YtkhjdhoaephdkaaDoor
open Go.RowKit

def RSym.withFn (x : RSym) (k m : Int) (b : Bool) : RSym := { x with has := b, fk := k, fn := m }
section
variable {W w w' : World} {ob : Nat} {lv : Value} {O : List RSym} {R : Heap}
theorem rProps_set {O : List RSym} {i : Nat} {x y : RSym} (h : O[i]? = some x) (hp : rProp y = rProp x) : rProps (O.set i y) = rProps O := by
  induction O generalizing i with
  | nil => simp at h
  | cons z O ih =>
    cases i with
    | zero =>
      simp at h
      subst h
      simp [rProps, hp]
    | succ i =>
      have := ih (i := i) (by simpa using h)
      unfold rProps at this ⊢
      rw [List.set_cons_succ, List.flatMap_cons, List.flatMap_cons, this]
theorem RAt.ne (h : RAt W w ob lv O R) {g : Nat} (hg : lv.ownBlock = some g) : ob ≠ g := by
  have hn := h.own.nod
  unfold rTab at hn
  rw [rowOf_some hg, List.cons_append, Heap.blocks_cons, List.nodup_cons] at hn
  rintro rfl
  exact hn.1 (by simp [Heap.blocks])
/-- A symbol is laid anew in its place. -/
theorem RAt.turn {g off c i : Nat} {x y : RSym} (h : RAt W w ob (.slice (some ⟨g, off, none⟩) O.length c) O R) (hx : O[i]? = some x) (hp : rProp y = rProp x) (hy : y.Ok) (ho : Only (· = g) w w') (hs : Sl w' 95 6 (.slice (some ⟨g, off, none⟩) O.length c) O.length (rows RSym.cells (O.set i y))) : RAt W w' ob (.slice (some ⟨g, off, none⟩) O.length c) (O.set i y) R := by
  have h1 := h.own
  unfold rTab at h1
  rw [rowOf_some (g := g) rfl] at h1
  have h2 : Own W w ((g, .row 95 6 (.slice (some ⟨g, off, none⟩) O.length c) O.length (rows RSym.cells O)) :: ((ob, .cells 70 #[.slice (some ⟨g, off, none⟩) O.length c]) :: (rProps O ++ R))) := h1.perm (by
    classical
    rw [List.perm_iff_count]
    intro z
    simp only [List.count_append, List.count_cons, List.count_nil]
    omega)
  have h3 := h2.turn (b := .row 95 6 (.slice (some ⟨g, off, none⟩) O.length c) O.length (rows RSym.cells (O.set i y))) ho ⟨rfl, hs⟩
  refine ⟨?_, by rw [List.length_set]; exact h.ok, fun z hz => ?_, by rw [List.length_set]; exact h.len⟩
  · unfold rTab
    rw [List.length_set, rowOf_some (g := g) rfl, rProps_set hx hp]
    refine h3.perm ?_
    classical
    rw [List.perm_iff_count]
    intro z
    simp only [List.count_append, List.count_cons, List.count_nil]
    omega
  · rcases List.mem_or_eq_of_mem_set hz with hz | rfl
    · exact h.okp z hz
    · exact hy
theorem rset_three {O : List RSym} {i : Nat} {x : RSym} (hx : O[i]? = some x) (k m : Int) (b : Bool) :
    (((rows RSym.cells O).set (i * 6 + 2) (.bool b)).set (i * 6 + 3) (.int .i64 k)).set (i * 6 + 4) (.int .i64 m) = rows RSym.cells (O.set i (x.withFn k m b)) := by
  have hlt : i < O.length := (List.getElem?_eq_some_iff.1 hx).1
  rw [rows_set rsym_len ({ x with has := b } : RSym) 2 (.bool b) O i x hx (by decide) rfl,
    rows_set rsym_len ({ x with has := b, fk := k } : RSym) 3 (.int .i64 k) (O.set i ({ x with has := b } : RSym)) i ({ x with has := b } : RSym) (by simp [hlt]) (by decide) rfl, List.set_set,
    rows_set rsym_len (x.withFn k m b) 4 (.int .i64 m) (O.set i ({ x with has := b, fk := k } : RSym)) i ({ x with has := b, fk := k } : RSym) (by simp [hlt]) (by decide) rfl, List.set_set]
theorem RAt.setFn {g off c i : Nat} {x : RSym} (h : RAt W w ob (.slice (some ⟨g, off, none⟩) O.length c) O R) (hx : O[i]? = some x) (k m : Int) (b : Bool) : RAt W (((w.setCell ⟨g, off + i * 6 + 2, none⟩ (.bool b)).setCell ⟨g, off + i * 6 + 3, none⟩ (.int .i64 k)).setCell ⟨g, off + i * 6 + 4, none⟩ (.int .i64 m)) ob (.slice (some ⟨g, off, none⟩) O.length c) (O.set i (x.withFn k m b)) R := by
  have hlt : i < O.length := (List.getElem?_eq_some_iff.1 hx).1
  have hl := rows_len rsym_len O
  refine h.turn hx rfl (h.okp x (List.mem_of_getElem? hx)) ((((Only.refl (· = g) w).setCell (.inl rfl) _).setCell (.inl rfl) _).setCell (.inl rfl) _) ?_
  have h1 := h.sl.set (i * 6 + 2) (by omega) (.bool b)
  have h2 := h1.set (i * 6 + 3) (by simp; omega) (.int .i64 k)
  have h3 := h2.set (i * 6 + 4) (by simp; omega) (.int .i64 m)
  rw [rset_three hx] at h3
  simpa only [Nat.add_assoc] using h3
/-- What SetFunc and ClearFunc leave. -/
def rsetA (O : List RSym) (n : Int) (k m : Int) (b : Bool) : List RSym := if mayR O.length n = 0 then (match O[n.toNat]? with | some x => O.set n.toNat (x.withFn k m b) | none => O) else O
set_option maxRecDepth 100000 in
set_option maxHeartbeats 4000000 in
theorem rsetfunc_any (h : RAt W w ob lv O R) (n k m : Int) : Calls Tryd.prog 51 #[.pointer (some ⟨ob, 0, none⟩), .int .i64 n, .agg #[.int .i64 k, .int .i64 m]] w fun e w' => e = .returned (.int .i64 (mayR O.length n)) ∧ RAt W w' ob lv (rsetA O n k m true) R := by
  have hB : Below w.heap.size w (w.alloc (.cells #[.int .i64 k, .int .i64 m] 44)) := (Below.refl _ _).alloc (Nat.le_refl _) _
  have hbk : Blk (w.alloc (.cells #[.int .i64 k, .int .i64 m] 44)) w.heap.size 44 #[.int .i64 k, .int .i64 m] := heap_alloc_new w _
  have hA := h.below hB
  have HLT := hide (show ob < w.heap.size from h.blk.lt)
  have HGLT := hide (fun g (hg : lv.ownBlock = some g) => h.sl.lt g hg)
  go_enter Tryd.func51, Tryd.ntmps51
  go_wp2_with fail
  generalize w.alloc (.cells #[.int .i64 k, .int .i64 m] 44) = w1 at *
  have HM := hide (rmay_any hA n)
  by_cases h1 : mayR O.length n = 0
  · have hb : 0 ≤ n ∧ n < (O.length : Int) := by
      unfold mayR at h1
      split at h1
      · assumption
      · cases h1
    obtain ⟨i, rfl⟩ : ∃ i : Nat, n = (i : Int) := ⟨n.toNat, by omega⟩
    obtain ⟨x, hx⟩ : ∃ x, O[i]? = some x := ⟨_, List.getElem?_eq_getElem (by omega)⟩
    have HE := hide (show rsetA O (i : Int) k m true = O.set i (x.withFn k m true) by unfold rsetA; rw [if_pos h1, show ((i : Int)).toNat = i by omega, hx])
    have HE1 := hide h1
    rw [h1] at HM
    obtain ⟨g, off, c, rfl, _, _, hfz, hc⟩ := hA.at_ (by omega)
    have HS := hide (hA.setFn hx k m true)
    obtain ⟨c0, -, -, p2, p3, p4, -⟩ := hc i x hx
    obtain ⟨z, hz⟩ : ∃ z, z = O.length := ⟨_, rfl⟩
    have hlt : (i : Int) < (z : Int) := by omega
    have h0 : (0 : Int) ≤ (i : Int) := by omega
    have n1 : ¬ ob = w.heap.size := by have := HLT.out; omega
    have n2 : ¬ g = w.heap.size := by have := HGLT.out g rfl; omega
    have n3 : ¬ w.heap.size = ob := by omega
    have n4 : ¬ w.heap.size = g := by omega
    have n5 : ¬ ob = g := hA.ne rfl
    have n6 : ¬ g = ob := fun e => n5 e.symm
    rw [← hz] at c0 HS
    have HZ := hide hz
    have f2 := hfz (off + i * 6 + 2)
    have f3 := hfz (off + i * 6 + 3)
    have f4 := hfz (off + i * 6 + 4)
    have k0 : w1.cell? ⟨w.heap.size, 0, none⟩ = some (.int .i64 k) := by rw [hbk.cell]; rfl
    have k1 : w1.cell? ⟨w.heap.size, 1, none⟩ = some (.int .i64 m) := by rw [hbk.cell]; rfl
    clear h h1 hb hx hc hfz hA hB hbk hz
    refine (Calls.mono HM.out) ?_
    rintro e w2 ⟨rfl, rfl⟩
    go_wp2
    go_region
    go_wp2
    go_ret
    exact ⟨by rw [HE1.out]; rfl, by rw [HE.out]; rw [HZ.out] at HS; exact HS.out.below (Below.refl _ _).drew⟩
  · have HE := hide (show rsetA O n k m true = O by unfold rsetA; rw [if_neg h1])
    obtain ⟨z, hz⟩ : ∃ z, z = mayR O.length n := ⟨_, rfl⟩
    have z1 : (z == 0) = false := by rw [hz]; simpa using h1
    have z2 : decide (z = 0) = false := by rw [hz]; simpa using h1
    rw [← hz] at HM
    have HZ := hide hz
    have HA := hide hA
    clear h h1 hA hB hbk hz
    refine (Calls.mono HM.out) ?_
    rintro e w2 ⟨rfl, rfl⟩
    go_wp2
    go_ret
    exact ⟨by rw [← HZ.out]; rfl, by rw [HE.out]; exact HA.out⟩
set_option maxRecDepth 100000 in
set_option maxHeartbeats 4000000 in
theorem rclearfunc_any (h : RAt W w ob lv O R) (n : Int) : Calls Tryd.prog 52 #[.pointer (some ⟨ob, 0, none⟩), .int .i64 n] w fun e w' => e = .returned (.int .i64 (mayR O.length n)) ∧ RAt W w' ob lv (rsetA O n 0 0 false) R := by
  have HM := hide (rmay_any h n)
  by_cases h1 : mayR O.length n = 0
  · have hb : 0 ≤ n ∧ n < (O.length : Int) := by
      unfold mayR at h1
      split at h1
      · assumption
      · cases h1
    obtain ⟨i, rfl⟩ : ∃ i : Nat, n = (i : Int) := ⟨n.toNat, by omega⟩
    obtain ⟨x, hx⟩ : ∃ x, O[i]? = some x := ⟨_, List.getElem?_eq_getElem (by omega)⟩
    have HE := hide (show rsetA O (i : Int) 0 0 false = O.set i (x.withFn 0 0 false) by unfold rsetA; rw [if_pos h1, show ((i : Int)).toNat = i by omega, hx])
    have HE1 := hide h1
    rw [h1] at HM
    obtain ⟨g, off, c, rfl, _, _, hfz, hc⟩ := h.at_ (by omega)
    have HS := hide (h.setFn hx 0 0 false)
    obtain ⟨c0, -, -, p2, p3, p4, -⟩ := hc i x hx
    obtain ⟨z, hz⟩ : ∃ z, z = O.length := ⟨_, rfl⟩
    have hlt : (i : Int) < (z : Int) := by omega
    have h0 : (0 : Int) ≤ (i : Int) := by omega
    have n5 : ¬ ob = g := h.ne rfl
    have n6 : ¬ g = ob := fun e => n5 e.symm
    rw [← hz] at c0 HS
    have HZ := hide hz
    have f2 := hfz (off + i * 6 + 2)
    have f3 := hfz (off + i * 6 + 3)
    have f4 := hfz (off + i * 6 + 4)
    clear h h1 hb hx hc hfz hz
    go_enter Tryd.func52, Tryd.ntmps52
    go_wp2_with fail
    refine (Calls.mono (HM.out)) ?_
    rintro e w2 ⟨rfl, rfl⟩
    go_wp2
    go_region
    go_wp2
    go_ret
    exact ⟨by rw [HE1.out]; rfl, by rw [HE.out]; rw [HZ.out] at HS; exact HS.out.below (Below.refl _ _).drew⟩
  · have HE := hide (show rsetA O n 0 0 false = O by unfold rsetA; rw [if_neg h1])
    obtain ⟨z, hz⟩ : ∃ z, z = mayR O.length n := ⟨_, rfl⟩
    have z1 : (z == 0) = false := by rw [hz]; simpa using h1
    have z2 : decide (z = 0) = false := by rw [hz]; simpa using h1
    rw [← hz] at HM
    have HZ := hide hz
    have HA := hide h
    clear h h1 hz
    go_enter Tryd.func52, Tryd.ntmps52
    go_wp2_with fail
    refine (Calls.mono (HM.out)) ?_
    rintro e w2 ⟨rfl, rfl⟩
    go_wp2
    go_ret
    exact ⟨by rw [← HZ.out]; rfl, by rw [HE.out]; exact HA.out⟩
end
end Go.Proofs.YtkhjdhoaephdkaaDoor
