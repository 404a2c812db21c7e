/- SetProp at a symbol that has properties. No condition but those written. -/
import Derived.Test.YtkhjdhoaephdkaaDoorNamProp3
namespace Go.Proofs.YtkhjdhoaephdkaaDoor
open Go.RowKit
attribute [local go_sem] eql_props

theorem set_self {l : List Value} {i : Nat} {a : Value} (h : l[i]? = some a) : l.set i a = l := by
  obtain ⟨hlt, he⟩ := List.getElem?_eq_some_iff.1 h
  rw [← he]
  exact List.set_getElem_self hlt

section
variable {tb : Nat} {L : List Sym} {F : Nat → Prop} {w : World}
set_option maxRecDepth 100000 in
set_option maxHeartbeats 2000000 in
theorem setprop_old (h : TableIs w tb L F) (n : Nat) (x : Sym) (hn : L[n]? = some x) (b : Nat) (hpm : x.pm = some b) (key : Int) (hkey : 0 ≤ key ∧ key < (L.length : Int)) (k m : Int) : Calls Tryd.prog 26 #[.pointer (some ⟨tb, 0, none⟩), .int .i64 (n : Int), .int .i64 key, .agg #[.int .i64 k, .int .i64 m]] w
    fun e w' => e = .returned (.int .i64 0) ∧ Left w tb (L.set n (withProps x b (pput x.props key k m))) F w' := by
  have hB : Below w.heap.size w (w.alloc (.cells #[.int .i64 k, .int .i64 m] 44)) := (Below.refl _ _).alloc (Nat.le_refl _) _
  have hbk : Blk (w.alloc (.cells #[.int .i64 k, .int .i64 m] 44)) w.heap.size 44 #[.int .i64 k, .int .i64 m] := heap_alloc_new w _
  have hlt : n < L.length := (List.getElem?_eq_some_iff.1 hn).1
  have hA := h.below hB
  have HAfter := hide fun L' w' (hl : Left (w.alloc (.cells #[.int .i64 k, .int .i64 m] 44)) tb L' F w') => Left.after hB hl
  go_enter Tryd.func26, Tryd.ntmps26
  go_wp2_with fail
  generalize w.alloc (.cells #[.int .i64 k, .int .i64 m] 44) = w1 at *
  have HM := hide (made_any hA)
  have HH := hide (has_any hA n)
  rw [show decide (0 ≤ (n : Int) ∧ (n : Int) < (L.length : Int)) = true by simp; omega] at HH
  have HK := hide (has_any hA key)
  rw [show decide (0 ≤ key ∧ key < (L.length : Int)) = true by simp; omega] at HK
  obtain ⟨vs, ib, a1, a2, a3, a4, a5, a6⟩ := hA.holds
  obtain ⟨g, off, c, rfl, _, _, hg, hfz, hcell⟩ := a2.fld sym_len (by omega)
  have c0 : w1.cell? ⟨tb, 0, none⟩ = some (.slice (some ⟨g, off, none⟩) L.length c) := by rw [a1.cell]; rfl
  have q5 : w1.cell? ⟨g, off + n * 6 + 5, none⟩ = some (.map (some b)) := by
    have q := hcell n x 5 _ hn rfl
    rw [hpm] at q
    exact q
  have p0 : w1.cell? ⟨w.heap.size, 0, none⟩ = some (.int .i64 k) := by rw [hbk.cell]; rfl
  have p1 : w1.cell? ⟨w.heap.size, 1, none⟩ = some (.int .i64 m) := by rw [hbk.cell]; rfl
  have hbm : F b ∧ MapIs w1 b (propPairs x.props) := by
    rcases hA.props x (List.mem_of_getElem? hn) with hp | ⟨b', hb', hF, hm⟩
    · rw [hpm] at hp
      cases hp.1
    · rw [hpm] at hb'
      cases hb'
      exact ⟨hF, hm⟩
  obtain ⟨w4, hr, hm4, ho4⟩ := hbm.2.drew.update (P := Tryd.prog) (prop_keys x.props) Tryd.underlying82 Tryd.underlying3 (.int .i64 key) (.agg #[.int .i64 k, .int .i64 m])
  rw [prop_put] at hm4
  have HW := hide (show Left w1 tb (L.set n (withProps x b (pput x.props key k m))) F w4 from by
    have e3 : (withProps x b (pput x.props key k m)).pm = x.pm := hpm.symm
    have hbi : b ∈ propBlocks L := List.mem_filterMap.2 ⟨x, List.mem_of_getElem? hn, hpm⟩
    have hS : rows Sym.cells (L.set n (withProps x b (pput x.props key k m))) = rows Sym.cells L := by
      have hs := rows_set sym_len (withProps x b (pput x.props key k m)) 5 (.map (some b)) L n x hn (by decide) rfl
      rw [← hs]
      refine set_self ?_
      rw [rows_at sym_len L n 5 x hn (by decide)]
      show some (Value.map x.pm) = _
      rw [hpm]
    refine ⟨⟨⟨_, ib, a1.drew.only ho4 ?_, ?_, ?_, .inl a4, fun g' hg' => .inl (a5 g' hg'), ?_⟩, fun s hs => ?_, ?_, .inl hA.self, fun z hz => ?_⟩, (Only.refl F w1).drew.trans' ho4 fun i hi => .inl (by rw [hi]; exact hbm.1)⟩
    · exact fun e => (hbm.2.ne_blk a1) e.symm
    · have := a2.drew.only ho4 (fun g' hg' e => a2.ne_map hbm.2 (by rw [hg', e]))
      rw [hS]
      simpa using this
    · rw [index_set (x := x) (y := withProps x b (pput x.props key k m)) rfl rfl L n 0 hn]
      exact a3.drew.only ho4 fun e => a6 (e ▸ hbi)
    · rw [props_set e3 L n hn]
      exact a6
    · rcases pm_other hpm L n hn hA.nodup s hs with rfl | ⟨h1, h2⟩
      · exact .inr ⟨b, rfl, .inl hbm.1, hm4⟩
      · rcases hA.props s h1 with hp | ⟨b', hb', hF, hm⟩
        · exact .inl hp
        · exact .inr ⟨b', hb', .inl hF, hm.drew.only ho4 fun e => h2 (by rw [hb', e])⟩
    · rw [props_set e3 L n hn]
      exact hA.nodup
    · rcases hz with hz | hz
      · exact Nat.lt_of_lt_of_le (hA.bound z hz) ho4.size
      · exact hz.2)
  clear hcell hfz hbm a1 a2 a3 hA h hm4 ho4
  refine (Calls.mono HM.out) ?_
  rintro e w2 ⟨rfl, rfl⟩
  go_wp2_with fail
  refine (Calls.mono HH.out) ?_
  rintro e w2 ⟨rfl, rfl⟩
  go_wp2_with fail
  refine (Calls.mono HK.out) ?_
  rintro e w2 ⟨rfl, rfl⟩
  go_wp2
  go_region
  go_wp2
  go_ret
  exact ⟨rfl, HAfter.out _ _ HW.out⟩
end
end Go.Proofs.YtkhjdhoaephdkaaDoor
