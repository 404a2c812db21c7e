/- A part of a slice of pieces replaced: plain laws of lists, the builtins' runs. No condition but those written. -/
import Derived.Test.YtgiogmbopiblmaaPpl
import Derived.Lib.Overlaps
import Derived.Lib.AppendZerosOnto
namespace Go.Proofs.Ytgiogmbopiblmaa
open Go.RowKit

theorem splice_take_lo {α : Type} {L : List α} {o : Nat} (ys : List α) (h : o ≤ L.length) : (splice L o ys).take o = L.take o := by
  unfold splice
  rw [List.take_append_of_le_length (by rw [List.length_take]; omega), List.take_take, Nat.min_self]
theorem splice_take_hi {α : Type} {L : List α} {o u : Nat} (ys : List α) (h : o ≤ L.length) (hu : u = o + ys.length) : (splice L o ys).take u = L.take o ++ ys := by
  subst hu
  unfold splice
  rw [← List.append_assoc, List.take_append_of_le_length (by rw [List.length_append, List.length_take]; omega), List.take_of_length_le (by rw [List.length_append, List.length_take]; omega)]
theorem splice_drop_hi {α : Type} {L : List α} {o k : Nat} (ys : List α) (h : o ≤ L.length) (hk : o + ys.length ≤ k) : (splice L o ys).drop k = L.drop k := by
  unfold splice
  rw [List.drop_append, List.drop_eq_nil_of_le (by rw [List.length_take]; omega), List.nil_append, List.drop_append, List.drop_eq_nil_of_le (by rw [List.length_take]; omega), List.nil_append, List.drop_drop, List.length_take]
  congr 1
  omega
/-- The piece fits in the part that goes. -/
theorem lay_fit {α : Type} {xs vs qs : List α} {a j n u t : Nat} (hx : xs.length = n) (hj : j ≤ n) (hu : u = a + vs.length) (hu2 : u ≤ j) (ht : t = u + (n - j)) : (splice (splice (splice xs a vs) u ((splice xs a vs).drop j)) t qs).take t = xs.take a ++ vs ++ xs.drop j := by
  have h1 : (splice xs a vs).length = n := by rw [splice_len _ _ _ (by omega), hx]
  have h2 : ((splice xs a vs).drop j).length = n - j := by rw [List.length_drop, h1]
  have h3 : (splice (splice xs a vs) u ((splice xs a vs).drop j)).length = n := by rw [splice_len _ _ _ (by rw [h2, h1]; omega), h1]
  rw [splice_take_lo _ (by omega), splice_take_hi _ (by omega) (by rw [h2]; exact ht), splice_take_hi _ (by omega) hu, splice_drop_hi _ (by omega) (by omega)]
/-- It does not fit: the tail first. -/
theorem lay_wide {α : Type} {zs xs vs : List α} {a j n u t : Nat} (hx : xs.length = n) (hj : j ≤ n) (ha : a ≤ j) (hu : u = a + vs.length) (ht : t = u + (n - j)) (hz : zs.length = t) (htk : zs.take n = xs) : splice (splice zs u (xs.drop j)) a vs = xs.take a ++ vs ++ xs.drop j := by
  have e1 : splice zs u (xs.drop j) = zs.take u ++ xs.drop j := splice_end _ _ _ (by rw [List.length_drop]; omega)
  rw [e1]
  unfold splice
  rw [List.take_append_of_le_length (by rw [List.length_take]; omega), List.take_take, Nat.min_eq_left (by omega), ← hu, List.drop_append_of_le_length (by rw [List.length_take]; omega), List.drop_eq_nil_of_le (by rw [List.length_take]; omega), List.nil_append, ← List.append_assoc]
  congr 2
  rw [← htk, List.take_take, Nat.min_eq_left (by omega)]
/-- In a new row. -/
theorem lay_new {α : Type} {zs xs vs : List α} {a j n u t : Nat} (hx : xs.length = n) (hj : j ≤ n) (_ha : a ≤ j) (hu : u = a + vs.length) (ht : t = u + (n - j)) (hz : zs.length = t) (htk : zs.take a = xs.take a) : splice (splice zs a vs) u (xs.drop j) = xs.take a ++ vs ++ xs.drop j := by
  have h1 : (splice zs a vs).length = t := by rw [splice_len _ _ _ (by omega), hz]
  rw [splice_end _ _ _ (by rw [List.length_drop, h1]; omega), splice_take_hi _ (by omega) hu, htk]
/-- Behind the last one. -/
theorem lay_end {α : Type} {xs vs qs : List α} {a n u : Nat} (hx : xs.length = n) (hu : u = a + vs.length) (hn : u ≤ n) : (splice (splice xs a vs) u qs).take u = xs.take a ++ vs := by
  rw [splice_take_lo _ (by rw [splice_len _ _ _ (by omega)]; omega), splice_take_hi _ (by omega) hu]
section
variable {P : Program} {w w' : World} {T : TypeId} {k g off n c : Nat} {xs : List Value}
/-- append to a front part of a slice of ours, where the slice has room for it. -/
theorem run_append_in (t ty e : TypeId) (i0 : TypeInfo) (ht : P.underlying t = some (.slice e)) (hi : P.info? e = some i0) (hk : i0.size = k) (h : Sl w T k (.slice (some ⟨g, off, none⟩) n c) n xs) (i m d : Nat) (vs : List Value) (sp : Option Addr) (hv : vs.length = m * k) (hin : i + m ≤ n) (hsrc : 0 < m → ∃ b o, sp = some ⟨b, o, none⟩ ∧ ∀ q v, vs[q]? = some v → w.cell? ⟨b, o + q, none⟩ = some v) (h1 : ∀ v ∈ vs, v.oneCell' = true) :
    ∃ w', (Builtin.append_ #[t, t] ty #[.slice (some ⟨g, off, none⟩) i c, .slice sp m d]).run P w = .ok (.slice (some ⟨g, off, none⟩) (i + m) c) w' ∧ Sl w' T k (.slice (some ⟨g, off, none⟩) n c) n (splice xs (i * k) vs) ∧ Only (· = g) w w' := by
  have hnc : n ≤ c := by
    rcases h.2 with ⟨e, _⟩ | ⟨_, _, _, _, e, _, h2, _⟩
    · cases e
    · injection e with _ _ e
      omega
  have hle : i + m ≤ c := by omega
  by_cases h0 : m = 0
  · subst h0
    obtain rfl : vs = [] := List.eq_nil_of_length_eq_zero (by simpa using hv)
    have hle' : i ≤ c := by omega
    refine ⟨w, ?_, by simpa [splice] using h, Only.refl _ _⟩
    have hl : ∀ (x : Addr), (loadCells x 0).run P w = .ok #[] w := fun x => by simpa using run_loadCells_list (P := P) w x [] (by simp)
    cases sp <;> simp [Builtin.append_, run_underlying ht, sizeOf, typeInfo, hi, hk, Builtin.lenOf, Builtin.firstCells, hl, hle', storeCells]
  · obtain ⟨b, o, rfl, hsr⟩ := hsrc (by omega)
    have hjk : i * k + vs.length ≤ n * k := by rw [hv, ← Nat.add_mul]; exact Nat.mul_le_mul_right k hin
    obtain ⟨cur, hg, hfit, hs, ho⟩ := h.set_row (i * k) vs (by omega) hjk
    have hl := run_loadCells_list (P := P) w ⟨b, o, none⟩ vs (fun q v hv => by rw [Addr.add_lit]; exact hsr q v hv)
    have hst := run_storeCells_at P g (off + i * k) T vs 0 cur w hg (by simpa using hfit) h1
    rw [hv] at hl
    refine ⟨_, ?_, hs, ho⟩
    simp [Builtin.append_, run_underlying ht, sizeOf, typeInfo, hi, hk, Builtin.lenOf, Builtin.firstCells, hl, hle, Addr.add_lit, hst]
theorem zeroCells_one {z : Array Value} (h1 : ∀ u ∈ z.toList, u.oneCell' = true) (m : Nat) : ∀ v ∈ (Builtin.zeroCells z m).toList, v.oneCell' = true := by
  intro u hu
  simp only [Builtin.zeroCells, Array.toList_map, List.mem_map, Array.mem_toList_iff, Array.mem_range] at hu
  obtain ⟨i, hi, rfl⟩ := hu
  have hpos : 0 < z.size := by
    rcases Nat.eq_zero_or_pos z.size with h0 | h0
    · rw [h0] at hi; omega
    · exact h0
  have hlt := Nat.mod_lt i hpos
  rw [getElem!_pos z (i % z.size) hlt]
  exact h1 _ (Array.getElem_mem_toList hlt)
end
section
variable {w w' : World} {sv vv v' : Value} {L X : List (Pc × Value)} {i j : Nat}
theorem PcsAt.replaced (h : PcsAt w sv L) (hx : PcsAt w vv X) (hi : i ≤ j) (hj : j ≤ L.length) {N : Nat} (hN : N = i + X.length + (L.length - j)) (hs : Sl w' 73 3 v' N ((rows pcC L).take (i * 3) ++ rows pcC X ++ (rows pcC L).drop (j * 3))) (ho : Only (fun g => sv.ownBlock = some g) w w') : PcsAt w' v' (L.take i ++ X ++ L.drop j) := by
  refine ⟨?_, fun p hp => ?_⟩
  · have e : (L.take i ++ X ++ L.drop j).length = N := by rw [hN]; simp; omega
    rw [e, rows_append, rows_append, ← rows_take pcC_len, ← rows_drop pcC_len]
    exact hs
  · have : PrS w p.2 p.1.pr := by
      rcases List.mem_append.1 hp with hp | hp
      · rcases List.mem_append.1 hp with hp | hp
        · exact h.inn p (List.mem_of_mem_take hp)
        · exact hx.inn p hp
      · exact h.inn p (List.mem_of_mem_drop hp)
    exact this.apart h.row ho
theorem pcs_replaced (i j : Nat) (L X : List (Pc × Value)) : pcs (L.take i ++ X ++ L.drop j) = (pcs L).take i ++ pcs X ++ (pcs L).drop j := by simp [pcs]
theorem zero_pc (w : World) : (zeroValue 73).run Try.prog w = .ok (.agg #[.int .i64 0, .int .i64 0, .slice none 0 0]) w := by kernel_rfl
theorem pc_one : ∀ u ∈ (Value.agg #[.int .i64 0, .int .i64 0, .slice none 0 0]).cells.toList, u.oneCell' = true := by
  intro u hu
  simp [Value.cells] at hu
  rcases hu with rfl | rfl | rfl <;> rfl
theorem size_pc : (Try.prog.info? 73).map (·.size) = some 3 := by kernel_rfl
end
end Go.Proofs.Ytgiogmbopiblmaa
