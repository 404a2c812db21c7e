/- slices.Replace at pieces: in the middle. No condition but those written. -/
import Derived.Test.YtgiogmbopiblmaaPpn
namespace Go.Proofs.Ytgiogmbopiblmaa
open Go.RowKit

theorem Sl.src {w : World} {T : TypeId} {k g off n c : Nat} {xs : List Value} (h : Sl w T k (.slice (some ⟨g, off, none⟩) n c) n xs) (j : Nat) : ∀ q v, (xs.drop (j * k))[q]? = some v → w.cell? ⟨g, off + j * k + q, none⟩ = some v := fun q v hq => by
  rw [List.getElem?_drop] at hq
  obtain ⟨A, c', e, hl, h2⟩ := h.rd
  injection e with e _ _
  have hlt := (List.getElem?_eq_some_iff.1 hq).1
  rw [hl] at hlt
  have hn : 0 < n := by
    rcases Nat.eq_zero_or_pos n with h0 | h0
    · subst h0
      omega
    · exact h0
  obtain ⟨b, o, e3, h3⟩ := h2 hn
  rw [← e] at e3
  injection e3 with e3
  injection e3 with e4 e5
  subst e4 e5
  rw [Nat.add_assoc]
  exact h3 _ v hq
theorem Sl.blkAt {w : World} {T : TypeId} {k g off n c : Nat} {xs : List Value} (h : Sl w T k (.slice (some ⟨g, off, none⟩) n c) n xs) : ∃ cs, w.heap[g]? = some (.cells cs T (0, 0)) ∧ off + c * k ≤ cs.size := by
  rcases h.2 with ⟨e, _⟩ | ⟨g', off', cap, cs, e, hg, _, _, h3, _⟩
  · cases e
  · injection e with e1 _ e2
    injection e1 with e1
    injection e1 with e3 e4
    subst e3 e4 e2
    exact ⟨cs, hg, h3⟩
/-- What the three ways have in common. -/
structure RepIn (w : World) (g off n c i j m d : Nat) (V : Option Addr) (L X : List (Pc × Value)) : Prop where
  row : Sl w 73 3 (.slice (some ⟨g, off, none⟩) n c) n (rows pcC L)
  src : Sl w 73 3 (.slice V m d) m (rows pcC X)
  ne : ∀ b o, V = some ⟨b, o, none⟩ → b ≠ g
  hn : n = L.length
  hm : m = X.length
  ij : i < j
  jn : j < n
  nc : n ≤ c
  cm : c ≤ 9223372036854775807
  nb : n ≤ 1000000
  mb : m ≤ 1000000
  one : ∀ u ∈ rows pcC X, u.oneCell' = true
  oneL : ∀ u ∈ rows pcC L, u.oneCell' = true
section
variable {w w' : World} {L X : List (Pc × Value)} {g off n c i j m d : Nat} {V : Option Addr}
theorem RepIn.srcs (h : RepIn w g off n c i j m d V L X) : 0 < m → ∃ b o, V = some ⟨b, o, none⟩ ∧ ∀ q v, (rows pcC X)[q]? = some v → w.cell? ⟨b, o + q, none⟩ = some v := fun h0 => by
  obtain ⟨A', c', e, _, h2⟩ := h.src.rd
  injection e with e _ _
  obtain ⟨b, o, e3, h3⟩ := h2 h0
  exact ⟨b, o, e.trans e3, h3⟩
/-- What Replace leaves. -/
def RepRes (w : World) (g off n c i j m : Nat) (L X : List (Pc × Value)) (e : Ending) (w' : World) : Prop :=
  ∃ v', e = .returned v' ∧ Sl w' 73 3 v' (i + m + (n - j)) ((rows pcC L).take (i * 3) ++ rows pcC X ++ (rows pcC L).drop (j * 3)) ∧ Only (fun b => (Value.slice (some ⟨g, off, none⟩) n c).ownBlock = some b) w w' ∧ (v'.ownBlock = (Value.slice (some ⟨g, off, none⟩) n c).ownBlock ∨ v'.ownBlock = some w.heap.size)
set_option maxRecDepth 100000 in
set_option maxHeartbeats 16000000 in
theorem rep_fit (h : RepIn w g off n c i j m d V L X) (hu : i + m ≤ j) : Calls Try.prog 73 #[.slice (some ⟨g, off, none⟩) n c, .int .i64 (i : Int), .int .i64 (j : Int), .slice V m d] w (RepRes w g off n c i j m L X) := by
  have hij := h.ij
  have hjn := h.jn
  have hnc := h.nc
  have hcm := h.cm
  have hnb := h.nb
  have hmb := h.mb
  have hxl : (rows pcC L).length = n * 3 := h.row.1
  have hvl : (rows pcC X).length = m * 3 := h.src.1
  obtain ⟨u, hue⟩ : ∃ u, u = i + m := ⟨_, rfl⟩
  obtain ⟨t, hte⟩ : ∃ t, t = u + (n - j) := ⟨_, rfl⟩
  obtain ⟨w2, hc1, hs2, ho2⟩ := run_copy_slk (P := Try.prog) 67 67 0 73 Try.underlying67 size_pc h.row.drew i m (some ⟨g, off + i * 3, none⟩) V (t - i) (c - i) m d (rows pcC X) (by show m = min m (t - i); omega) hvl (by omega) (fun h0 => ⟨rfl, h.srcs h0⟩) h.one
  have hs2l : (splice (rows pcC L) (i * 3) (rows pcC X)).length = n * 3 := hs2.1
  have h1s : ∀ u ∈ splice (rows pcC L) (i * 3) (rows pcC X), u.oneCell' = true := by
    intro u hu
    unfold splice at hu
    rcases List.mem_append.1 hu with hu | hu
    · exact h.oneL u (List.mem_of_mem_take hu)
    · rcases List.mem_append.1 hu with hu | hu
      · exact h.one u hu
      · exact h.oneL u (List.mem_of_mem_drop hu)
  obtain ⟨w3, hc2, hs3, ho3⟩ := run_copy_slk (P := Try.prog) 67 67 0 73 Try.underlying67 size_pc hs2.drew u (n - j) (some ⟨g, off + u * 3, none⟩) (some ⟨g, off + j * 3, none⟩) (t - u) (c - u) (n - j) (c - j) ((splice (rows pcC L) (i * 3) (rows pcC X)).drop (j * 3)) (by show n - j = min (n - j) (t - u); omega) (by rw [List.length_drop, hs2l]; omega) (by omega) (fun h0 => ⟨rfl, _, _, rfl, hs2.drew.src j⟩) (fun v hv => h1s v (List.mem_of_mem_drop hv))
  have hc1' : ∀ ty, (Builtin.copy_ #[67, 67] ty #[.slice (some ⟨g, off + i * 3, none⟩) (t - i) (c - i), .slice V m d]).run Try.prog w.drew = .ok (goInt m) w2 := fun _ => hc1
  have hc2' : ∀ ty, (Builtin.copy_ #[67, 67] ty #[.slice (some ⟨g, off + u * 3, none⟩) (t - u) (c - u), .slice (some ⟨g, off + j * 3, none⟩) (n - j) (c - j)]).run Try.prog w2.drew = .ok (goInt (n - j : Nat)) w3 := fun _ => hc2
  have htn : t ≤ n := by omega
  have hue' : (i : Int) + (m : Int) = (u : Int) := by omega
  have wr1 : IntKind.i64.wrap ((i : Int) + (m : Int)) = (u : Int) := by rw [hue']; exact IntWalk.i64_in _ (by omega)
  have wr2 : IntKind.i64.wrap ((u : Int) + ((n - j : Nat) : Int)) = (t : Int) := by rw [show (u : Int) + ((n - j : Nat) : Int) = (t : Int) by omega]; exact IntWalk.i64_in _ (by omega)
  have a1 : (i : Int) ≤ (j : Int) := by omega
  have a2 : (j : Int) ≤ (n : Int) := by omega
  have a3 : (j : Int) ≤ (c : Int) := by omega
  have a4 : (i : Int) ≤ (c : Int) := by omega
  have a5 : ((i : Int) == (j : Int)) = false := by simp; omega
  have a6 : ((j : Int) == (n : Int)) = false := by simp; omega
  have a7 : decide ((c : Int) < (t : Int)) = false := by simp; omega
  have a8 : decide ((u : Int) ≤ (j : Int)) = true := by simp; omega
  have a9 : (t : Int) ≤ (n : Int) := by omega
  have a10 : (t : Int) ≤ (c : Int) := by omega
  have a11 : (u : Int) ≤ (t : Int) := by omega
  have a12 : (i : Int) ≤ (t : Int) := by omega
  have a13 : (u : Int) ≤ (j : Int) := by omega
  have b1 : ¬ c = i := by omega
  have b2 : ¬ i = c := by omega
  have b3 : ¬ c = j := by omega
  have b4 : ¬ j = c := by omega
  have b5 : ¬ c = u := by omega
  have b6 : ¬ u = c := by omega
  have b7 : ¬ (i : Int) = (j : Int) := by omega
  have b8 : ¬ (j : Int) = (n : Int) := by omega
  have b9 : ¬ i = j := by omega
  have b10 : ¬ j = n := by omega
  have hLF : ∀ qs : List Value, (splice (splice (splice (rows pcC L) (i * 3) (rows pcC X)) (u * 3) ((splice (rows pcC L) (i * 3) (rows pcC X)).drop (j * 3))) (t * 3) qs).take (t * 3) = (rows pcC L).take (i * 3) ++ rows pcC X ++ (rows pcC L).drop (j * 3) := fun qs =>
    lay_fit hxl (by omega) (by rw [hvl]; omega) (by omega) (by omega)
  have HLF := hide hLF
  have HT := hide (show t = i + m + (n - j) by omega)
  obtain ⟨w4, hcl, ⟨qs, hql, hs4⟩, ho4⟩ := run_clear_slk (P := Try.prog) (k := 3) (m := n - t) 67 73 0 (.agg #[.int .i64 0, .int .i64 0, .slice none 0 0]) Try.underlying67 zero_pc rfl (zeroCells_one pc_one _) hs3 t (c - t) (if c = t then some ⟨g, off, none⟩ else some ⟨g, off + t * 3, none⟩) (by omega) (fun h0 => if_neg (by omega))
  have hcl2 : ∀ ty, (Builtin.clear_ #[67] ty #[.slice (if c = t then some ⟨g, off, none⟩ else some ⟨g, off + t * 3, none⟩) (n - t) (c - t)]).run Try.prog w3 = .ok (.tuple #[]) w4 := fun _ => hcl
  have HE := hide (show RepRes w g off n c i j m L X (.returned (.slice (some ⟨g, off, none⟩) t c)) w4 from by
    refine ⟨_, rfl, ?_, ?_, .inl rfl⟩
    · have h4 := Sl.cut hs4 (m := t) htn
      rw [HLF.out, HT.out] at h4
      rw [HT.out]
      exact h4
    · exact ((((Only.refl (· = g) w).drew.trans ho2).drew.trans ho3).trans ho4).mono fun b _ e => by subst e; rfl)
  clear h hs2 hs3 hs4 ho2 ho3 ho4 hc1 hc2 hcl hql hLF hs2l h1s hxl hvl hue hte hue' hu hij hjn
  go_enter Try.func73, Try.ntmps73
  go_upto_region 9 with fail
  go_region
  go_upto_region 18 with fail
  go_region
  go_wp2
  all_goals
    go_ret
    have h9 := HE.out
    subst_vars
    exact h9
end
end Go.Proofs.Ytgiogmbopiblmaa
