/- slices.Replace at pieces: more than goes; a new row. No condition but those written. -/
import Derived.Test.YtgiogmbopiblmaaPpo
namespace Go.Proofs.Ytgiogmbopiblmaa
open Go.RowKit

theorem Sl.srcs {w : World} {T : TypeId} {k n d : Nat} {V : Option Addr} {xs : List Value} (h : Sl w T k (.slice V n d) n xs) : 0 < n → ∃ b o, V = some ⟨b, o, none⟩ ∧ ∀ q v, xs[q]? = some v → w.cell? ⟨b, o + q, none⟩ = some v := fun h0 => by
  obtain ⟨A', c', e, _, h2⟩ := h.rd
  injection e with e _ _
  obtain ⟨b, o, e3, h3⟩ := h2 h0
  exact ⟨b, o, e.trans e3, h3⟩
theorem frozen_blk {w : World} {g : Nat} {cs : Array Value} {T : TypeId} (h : w.heap[g]? = some (.cells cs T (0, 0))) (i : Nat) : w.frozen? ⟨g, i, none⟩ = false := by
  simp [World.frozen?, h]
theorem shape_blk {w : World} {g : Nat} {cs : Array Value} {T : TypeId} (h : w.heap[g]? = some (.cells cs T (0, 0))) : w.shape? g = some (T, cs.size) := by
  simp [World.shape?, h]
theorem piece_size (w : World) : (Go.sizeOf 73).run Try.prog w = .ok 3 w := by kernel_rfl
section
variable {w w' : World} {L X : List (Pc × Value)} {g off n c i j m d : Nat} {V : Option Addr}
theorem overlaps_not {w : World} {n c n' c' g g' off off' : Nat} {xs ys : List Value} (h : Sl w 73 3 (.slice (some ⟨g, off, none⟩) n c) n xs) (h' : Sl w 73 3 (.slice (some ⟨g', off', none⟩) n' c') n' ys) (hne : g ≠ g') (hp : 0 < n') (a la ca lb cb : Nat) :
    (callFunc 86 #[.slice (some ⟨g, a, none⟩) la ca, .slice (some ⟨g', off', none⟩) lb cb]).run Try.prog w = .ok (.value (.bool false)) w := by
  obtain ⟨cs, hg, h1⟩ := h.blkAt
  obtain ⟨cs', hg', h1'⟩ := h'.blkAt
  have hc : n' ≤ c' := by
    rcases h'.2 with ⟨e, _⟩ | ⟨_, _, _, _, e, _, h2, _⟩
    · cases e
    · injection e with _ _ e
      omega
  rw [run_callFunc_extern Try.func86 (by kernel_rfl) (by kernel_rfl) (by kernel_rfl) (e := Extern.SlicesOverlaps.overlaps #[67, 67] #[4]) (by kernel_rfl),
    Lib.run_overlaps_apart w 67 4 73 Try.underlying67 3 piece_size ⟨g, a, none⟩ ⟨g', off', none⟩ la ca lb cb hne _ _ _ _ (shape_blk hg) (shape_blk hg') (by omega) (frozen_blk hg _) (frozen_blk hg _)]
  rfl
set_option maxRecDepth 100000 in
set_option maxHeartbeats 16000000 in
theorem rep_wide (h : RepIn w g off n c i j m d V L X) (hu : j < i + m) (hroom : i + m + (n - j) ≤ c) : Calls Try.prog 73 #[.slice (some ⟨g, off, none⟩) n c, .int .i64 (i : Int), .int .i64 (j : Int), .slice V m d] w (RepRes w g off n c i j m L X) := by
  have hij := h.ij
  have hjn := h.jn
  have hnc := h.nc
  have hcm := h.cm
  have hnb := h.nb
  have hmb := h.mb
  have hxl : (rows pcC L).length = n * 3 := h.row.1
  have hvl : (rows pcC X).length = m * 3 := h.src.1
  obtain ⟨u, hue⟩ : ∃ u, u = i + m := ⟨_, rfl⟩
  obtain ⟨t, hte⟩ : ∃ t, t = u + (n - j) := ⟨_, rfl⟩
  obtain ⟨vb, vo, rfl, -⟩ := h.src.srcs (by omega)
  have hne : g ≠ vb := fun e => h.ne vb vo rfl e.symm
  obtain ⟨zs, hz, hzt⟩ := Sl.more h.row t (by omega) (by omega)
  have hov : ∀ la ca lb cb, (callFunc 86 #[.slice (some ⟨g, off + u * 3, none⟩) la ca, .slice (some ⟨vb, vo, none⟩) lb cb]).run Try.prog w.drew = .ok (.value (.bool false)) w.drew := fun la ca lb cb => overlaps_not h.row.drew h.src.drew hne (by omega) _ la ca lb cb
  obtain ⟨w2, hc1, hs2, ho2⟩ := run_copy_slk (P := Try.prog) 67 67 0 73 Try.underlying67 size_pc hz.drew.drew u (n - j) (some ⟨g, off + u * 3, none⟩) (some ⟨g, off + j * 3, none⟩) (t - u) (c - u) (n - j) (c - j) ((rows pcC L).drop (j * 3)) (by show n - j = min (n - j) (t - u); omega) (by rw [List.length_drop, hxl]; omega) (by omega) (fun h0 => ⟨rfl, _, _, rfl, h.row.drew.drew.src j⟩) (fun v hv => h.oneL v (List.mem_of_mem_drop hv))
  have hx2 : Sl w2 73 3 (.slice (some ⟨vb, vo, none⟩) m d) m (rows pcC X) := h.src.drew.drew.only ho2 fun k hk e => by
    have hk' : some vb = some k := hk
    injection hk' with hk'
    omega
  obtain ⟨w3, hc2, hs3, ho3⟩ := run_copy_slk (P := Try.prog) 67 67 0 73 Try.underlying67 size_pc hs2 i m (some ⟨g, off + i * 3, none⟩) (some ⟨vb, vo, none⟩) (t - i) (c - i) m d (rows pcC X) (by show m = min m (t - i); omega) hvl (by omega) (fun h0 => ⟨rfl, hx2.srcs h0⟩) h.one
  have hc1' : ∀ ty, (Builtin.copy_ #[67, 67] ty #[.slice (some ⟨g, off + u * 3, none⟩) (t - u) (c - u), .slice (some ⟨g, off + j * 3, none⟩) (n - j) (c - j)]).run Try.prog w.drew.drew = .ok (goInt (n - j : Nat)) w2 := fun _ => hc1
  have hc2' : ∀ ty, (Builtin.copy_ #[67, 67] ty #[.slice (some ⟨g, off + i * 3, none⟩) (t - i) (c - i), .slice (some ⟨vb, vo, none⟩) m d]).run Try.prog w2 = .ok (goInt m) w3 := fun _ => hc2
  have hue' : (i : Int) + (m : Int) = (u : Int) := by omega
  have wr1 : IntKind.i64.wrap ((i : Int) + (m : Int)) = (u : Int) := by rw [hue']; exact IntWalk.i64_in _ (by omega)
  have wr2 : IntKind.i64.wrap ((u : Int) + ((n - j : Nat) : Int)) = (t : Int) := by rw [show (u : Int) + ((n - j : Nat) : Int) = (t : Int) by omega]; exact IntWalk.i64_in _ (by omega)
  have a1 : (i : Int) ≤ (j : Int) := by omega
  have a2 : (j : Int) ≤ (n : Int) := by omega
  have a3 : (j : Int) ≤ (c : Int) := by omega
  have a4 : (i : Int) ≤ (c : Int) := by omega
  have a5 : ((i : Int) == (j : Int)) = false := by simp; omega
  have a6 : ((j : Int) == (n : Int)) = false := by simp; omega
  have a7 : decide ((c : Int) < (t : Int)) = false := by simp; omega
  have a8 : decide ((u : Int) ≤ (j : Int)) = false := by simp; omega
  have a8' : ¬ u ≤ j := by omega
  have a10 : (t : Int) ≤ (c : Int) := by omega
  have a11 : (u : Int) ≤ (t : Int) := by omega
  have a12 : (i : Int) ≤ (t : Int) := by omega
  have b1 : ¬ c = i := by omega
  have b2 : ¬ i = c := by omega
  have b3 : ¬ c = j := by omega
  have b4 : ¬ j = c := by omega
  have b5 : ¬ c = u := by omega
  have b6 : ¬ u = c := by omega
  have b7 : ¬ (i : Int) = (j : Int) := by omega
  have b8 : ¬ (j : Int) = (n : Int) := by omega
  have b9 : ¬ i = j := by omega
  have b10 : ¬ j = n := by omega
  have b11 : ¬ c < t := by omega
  have HE := hide (show RepRes w g off n c i j m L X (.returned (.slice (some ⟨g, off, none⟩) t c)) w3 from by
    refine ⟨_, rfl, ?_, ?_, .inl rfl⟩
    · rw [lay_wide (n := n * 3) hxl (by omega) (by omega) (by rw [hvl]; omega) (t := t * 3) (by omega) hz.1 hzt] at hs3
      rw [show i + m + (n - j) = t by omega]
      exact hs3
    · exact (((Only.refl (· = g) w).drew.drew.trans ho2).trans ho3).mono fun b _ e => by subst e; rfl)
  clear h hs2 hs3 ho2 ho3 hc1 hc2 hxl hvl hue hte hue' hu hij hjn hz hzt hx2 hroom hne
  go_enter Try.func73, Try.ntmps73
  go_upto_region 9 with fail
  go_region
  go_upto_region 22 with (simp only [hov])
  go_region
  go_wp2
  go_ret
  exact HE.out
set_option maxRecDepth 100000 in
set_option maxHeartbeats 16000000 in
theorem rep_new (h : RepIn w g off n c i j m d V L X) (hroom : c < i + m + (n - j)) : Calls Try.prog 73 #[.slice (some ⟨g, off, none⟩) n c, .int .i64 (i : Int), .int .i64 (j : Int), .slice V m d] w (RepRes w g off n c i j m L X) := by
  obtain ⟨i0, hi0, hz0, hz1, hz2⟩ := info_parts info_pc
  have hij := h.ij
  have hjn := h.jn
  have hnc := h.nc
  have hcm := h.cm
  have hnb := h.nb
  have hmb := h.mb
  have hxl : (rows pcC L).length = n * 3 := h.row.1
  have hvl : (rows pcC X).length = m * 3 := h.src.1
  obtain ⟨u, hue⟩ : ∃ u, u = i + m := ⟨_, rfl⟩
  obtain ⟨t, hte⟩ : ∃ t, t = u + (n - j) := ⟨_, rfl⟩
  obtain ⟨k0, hk0⟩ : ∃ k, k = t - i := ⟨_, rfl⟩
  have hik : i + k0 = t := by omega
  have hold : (Builtin.firstCells i0.size i (.slice (some ⟨g, off, none⟩) i c)).run Try.prog w.drew.drew = .ok ((rows pcC L).take (i * 3)).toArray w.drew.drew := by
    rw [hz1]
    refine run_firstCells_some w.drew.drew 3 i ⟨g, off, none⟩ i c ((rows pcC L).take (i * 3)) (by rw [List.length_take]; omega) (fun q v hq => ?_)
    rw [Addr.add_lit]
    rw [List.getElem?_take] at hq
    split at hq
    · have := h.row.drew.drew.src 0 q v (by simpa using hq)
      simpa using this
    · cases hq
  have hrz := Lib.run_append_grow_zeros (P := Try.prog) w.drew 67 3 0 73 i0 _ .i64 .i64 Try.underlying67 Try.underlying3 hi0 hz0 (some ⟨g, off, none⟩) i c _ hold k0 (by omega) (by omega) (by omega) (by omega) (by rw [hz2]; omega) (by rw [hz2]; exact growslice_fits (by omega) (by omega))
  rw [hik] at hrz
  obtain ⟨G, hG⟩ : ∃ G, G = grownCap w.drew t c 73 := ⟨_, rfl⟩
  have hGt : t ≤ G := by rw [hG]; exact grownCap_ge _ _ _ _
  have hGm : G ≤ maxLen := by rw [hG]; exact grownCap_le_maxLen _ _ _ _ (by unfold maxLen; omega)
  rw [← hG] at hrz
  obtain ⟨row, hrow⟩ : ∃ r, r = ((rows pcC L).take (i * 3)).toArray ++ Builtin.zeroCells (Value.agg #[.int .i64 0, .int .i64 0, .slice none 0 0]).cells k0 ++ Builtin.zeroCells (Value.agg #[.int .i64 0, .int .i64 0, .slice none 0 0]).cells (G - t) := ⟨_, rfl⟩
  rw [← hrow] at hrz
  have hcs3 : (Value.agg #[.int .i64 0, .int .i64 0, .slice none 0 0]).cells.size = 3 := rfl
  have hrs : row.size = G * 3 := by
    rw [hrow]
    simp only [Array.size_append, List.size_toArray, List.length_take, size_zeroCells, hcs3]
    omega
  have hz := Sl.new w.drew.drew 73 3 row t G hGt hGm (Nat.le_of_eq hrs.symm)
  have hzl := hz.1
  have hzt : (row.toList.take (t * 3)).take (i * 3) = (rows pcC L).take (i * 3) := by
    rw [List.take_take, Nat.min_eq_left (by omega), hrow]
    simp only [Array.toList_append]
    rw [List.append_assoc, List.take_append_of_le_length (by rw [List.length_take]; omega), List.take_take, Nat.min_self]
  obtain ⟨w1, hw1⟩ : ∃ w1, w1 = w.drew.drew.alloc (.cells row 73) := ⟨_, rfl⟩
  obtain ⟨h0, hh0⟩ : ∃ h, h = w.heap.size := ⟨_, rfl⟩
  have hb1 : Below h0 w w1 := by rw [hw1, hh0]; exact (Below.refl _ w).drew.drew.alloc (Nat.le_refl _) _
  have hz' : Sl w1 73 3 (.slice (some ⟨h0, 0, none⟩) t G) t (row.toList.take (t * 3)) := by rw [hw1, hh0]; exact hz
  have hr1 : (Builtin.append_ #[67, 3] 0 #[.slice (some ⟨g, off, none⟩) i c, .int .i64 (k0 : Int)]).run Try.prog w.drew = .ok (.slice (some ⟨h0, 0, none⟩) t G) w1 := by rw [hw1, hh0]; exact hrz
  have hr1' : ∀ ty, (Builtin.append_ #[67, 3] ty #[.slice (some ⟨g, off, none⟩) i c, .int .i64 (k0 : Int)]).run Try.prog w.drew = .ok (.slice (some ⟨h0, 0, none⟩) t G) w1 := fun _ => hr1
  have hgl : g < h0 := by rw [hh0]; obtain ⟨cs, hg, _⟩ := h.row.blkAt; exact lt_of_heap hg
  have hsrc1 : Sl w1 73 3 (.slice V m d) m (rows pcC X) := h.src.only (Only.of_below (F := fun _ => False) (by rw [← hh0]; exact hb1)) fun _ _ f => f
  have hrow1 : Sl w1 73 3 (.slice (some ⟨g, off, none⟩) n c) n (rows pcC L) := h.row.only (Only.of_below (F := fun _ => False) (by rw [← hh0]; exact hb1)) fun _ _ f => f
  obtain ⟨w2, hc1, hs2, ho2⟩ := run_copy_slk (P := Try.prog) 67 67 0 73 Try.underlying67 size_pc hz' i m (some ⟨h0, i * 3, none⟩) V (t - i) (G - i) m d (rows pcC X) (by show m = min m (t - i); omega) hvl (by omega) (fun hp => ⟨by simp, hsrc1.srcs hp⟩) h.one
  have hrow2 := hrow1.only ho2 fun k hk e => by
    have hk' : some g = some k := hk
    injection hk' with hk'
    omega
  obtain ⟨w3, hc2, hs3, ho3⟩ := run_copy_slk (P := Try.prog) 67 67 0 73 Try.underlying67 size_pc hs2.drew u (n - j) (some ⟨h0, u * 3, none⟩) (some ⟨g, off + j * 3, none⟩) (t - u) (G - u) (n - j) (c - j) ((rows pcC L).drop (j * 3)) (by show n - j = min (n - j) (t - u); omega) (by rw [List.length_drop, hxl]; omega) (by omega) (fun hp => ⟨by simp, _, _, rfl, hrow2.drew.src j⟩) (fun v hv => h.oneL v (List.mem_of_mem_drop hv))
  have hc1' : ∀ ty, (Builtin.copy_ #[67, 67] ty #[.slice (some ⟨h0, i * 3, none⟩) (t - i) (G - i), .slice V m d]).run Try.prog w1 = .ok (goInt m) w2 := fun _ => hc1
  have hc2' : ∀ ty, (Builtin.copy_ #[67, 67] ty #[.slice (some ⟨h0, u * 3, none⟩) (t - u) (G - u), .slice (some ⟨g, off + j * 3, none⟩) (n - j) (c - j)]).run Try.prog w2.drew = .ok (goInt (n - j : Nat)) w3 := fun _ => hc2
  have hue' : (i : Int) + (m : Int) = (u : Int) := by omega
  have wr1 : IntKind.i64.wrap ((i : Int) + (m : Int)) = (u : Int) := by rw [hue']; exact IntWalk.i64_in _ (by omega)
  have wr2 : IntKind.i64.wrap ((u : Int) + ((n - j : Nat) : Int)) = (t : Int) := by rw [show (u : Int) + ((n - j : Nat) : Int) = (t : Int) by omega]; exact IntWalk.i64_in _ (by omega)
  have wr3 : IntKind.i64.wrap ((t : Int) - (i : Int)) = (k0 : Int) := by rw [show (t : Int) - (i : Int) = (k0 : Int) by omega]; exact IntWalk.i64_in _ (by omega)
  have a1 : (i : Int) ≤ (j : Int) := by omega
  have a2 : (j : Int) ≤ (n : Int) := by omega
  have a3 : (j : Int) ≤ (c : Int) := by omega
  have a4 : (i : Int) ≤ (c : Int) := by omega
  have a5 : ((i : Int) == (j : Int)) = false := by simp; omega
  have a6 : ((j : Int) == (n : Int)) = false := by simp; omega
  have a7 : decide ((c : Int) < (t : Int)) = true := by simp; omega
  have a11 : (u : Int) ≤ (t : Int) := by omega
  have a12 : (i : Int) ≤ (t : Int) := by omega
  have a13 : (t : Int) ≤ (G : Int) := by omega
  have b1 : ¬ G = i := by omega
  have b2 : ¬ i = G := by omega
  have b3 : ¬ c = j := by omega
  have b4 : ¬ j = c := by omega
  have b5 : ¬ G = u := by omega
  have b6 : ¬ u = G := by omega
  have b7 : ¬ (i : Int) = (j : Int) := by omega
  have b8 : ¬ (j : Int) = (n : Int) := by omega
  have b9 : ¬ i = j := by omega
  have b10 : ¬ j = n := by omega
  have b11 : c < t := by omega
  have HE := hide (show RepRes w g off n c i j m L X (.returned (.slice (some ⟨h0, 0, none⟩) t G)) w3 from by
    refine ⟨_, rfl, ?_, ?_, .inr (by rw [hh0]; rfl)⟩
    · rw [lay_new (n := n * 3) hxl (by omega) (by omega) (by rw [hvl]; omega) (t := t * 3) (by omega) hzl hzt] at hs3
      rw [show i + m + (n - j) = t by omega]
      exact hs3
    · have o1 : Only (· = h0) w w1 := Only.of_below (by rw [← hh0]; exact hb1)
      exact ((o1.trans ho2).drew.trans ho3).mono fun b hb e => by omega)
  have hGl : (G : Int) ≤ 9223372036854775807 := by unfold maxLen at hGm; omega
  clear h hs2 hs3 ho2 ho3 hc1 hc2 hxl hvl hue hte hue' hij hjn hz hzt hzl hrow hrs hcs3 hold hrz hroom hGm hG hw1 hb1 hz' hr1 hgl hsrc1 hrow1 hrow2 hik hk0 hh0 hi0 hz0 hz1 hz2
  go_enter Try.func73, Try.ntmps73
  go_upto_region 9 with fail
  go_region
  go_upto_region 13 with (at_builtin; refine Lib.wpList_append_run _ rfl (.tmp 63) (.tmp 66) _ _ rfl _ _ rfl rfl _ _ (hr1' _) ?_)
  go_region
  go_wp2
  go_ret
  exact HE.out
end
end Go.Proofs.Ytgiogmbopiblmaa
