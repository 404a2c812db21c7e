/- SetProp where it sets, Prop. No condition but those written. -/
import Derived.Test.YtkhjdhoaephdkaaDoorNamProps
namespace Go.Proofs.YtkhjdhoaephdkaaDoor
open Go.RowKit

theorem run_equalIn_nil {P : Program} (w : World) (d : Nat) (t k e : TypeId) (p : Option Nat) (h : P.underlying t = some (.map k e)) : (Op.equalIn (d + 1) t (.map p) (.map none)).run P w = .ok p.isNone w := by
  cases p <;> simp [Op.equalIn, run_underlying h]
theorem eql_props (w : World) (p : Option Nat) : (binOp .eql 82 (.map p) (.map none)).run Tryd.prog w = .ok (.bool p.isNone) w := by
  simp only [binOp]
  simp [show Op.equal 82 (.map p) (.map none) = Op.equalIn (9999 + 1) 82 (.map p) (.map none) from rfl, run_equalIn_nil w 9999 82 _ _ p Tryd.underlying82]
attribute [local go_sem] eql_props

/-- A symbol with other properties. -/
def withProps (x : Sym) (b : Nat) (l : List (Int × Int × Int)) : Sym := { x with pm := some b, props := l }

theorem mem_props_set {y : Sym} {b : Nat} (hy : y.pm = some b) {L : List Sym} {n z : Nat} (h : z ∈ propBlocks (L.set n y)) : z ∈ propBlocks L ∨ z = b := by
  obtain ⟨s, hs, hz⟩ := List.mem_filterMap.1 h
  rcases List.mem_or_eq_of_mem_set hs with hs | rfl
  · exact .inl (List.mem_filterMap.2 ⟨s, hs, hz⟩)
  · rw [hy] at hz
    exact .inr (Option.some.inj hz).symm
theorem nodup_props_set {x y : Sym} {b : Nat} (hx : x.pm = none) (hy : y.pm = some b) : ∀ (L : List Sym) (n : Nat), L[n]? = some x → b ∉ propBlocks L → (propBlocks L).Nodup → (propBlocks (L.set n y)).Nodup
  | [], n, h, _, _ => by simp at h
  | z :: L, 0, h, hb, hn => by
    simp at h
    subst h
    have e : propBlocks (z :: L) = propBlocks L := by simp [propBlocks, List.filterMap_cons, hx]
    have e2 : propBlocks ((z :: L).set 0 y) = b :: propBlocks L := by simp [propBlocks, List.filterMap_cons, hy]
    rw [e] at hb hn
    rw [e2]
    exact List.nodup_cons.2 ⟨hb, hn⟩
  | z :: L, n + 1, h, hb, hn => by
    have h' : L[n]? = some x := by simpa using h
    cases hz : z.pm with
    | none =>
      have e : propBlocks (z :: L) = propBlocks L := by simp [propBlocks, List.filterMap_cons, hz]
      have e2 : propBlocks ((z :: L).set (n + 1) y) = propBlocks (L.set n y) := by simp [propBlocks, List.filterMap_cons, hz]
      rw [e] at hb hn
      rw [e2]
      exact nodup_props_set hx hy L n h' hb hn
    | some q =>
      have e : propBlocks (z :: L) = q :: propBlocks L := by simp [propBlocks, List.filterMap_cons, hz]
      have e2 : propBlocks ((z :: L).set (n + 1) y) = q :: propBlocks (L.set n y) := by simp [propBlocks, List.filterMap_cons, hz]
      rw [e] at hb hn
      rw [e2]
      have hb1 : b ≠ q ∧ b ∉ propBlocks L := by simpa using hb
      have hn1 := List.nodup_cons.1 hn
      refine List.nodup_cons.2 ⟨fun hq => ?_, nodup_props_set hx hy L n h' hb1.2 hn1.2⟩
      rcases mem_props_set hy hq with hq | hq
      · exact hn1.1 hq
      · exact hb1.1 hq.symm

section
variable {tb : Nat} {L : List Sym} {F : Nat → Prop} {w : World}
set_option maxRecDepth 100000 in
set_option maxHeartbeats 2000000 in
theorem setprop_new (h : TableIs w tb L F) (n : Nat) (x : Sym) (hn : L[n]? = some x) (hpm : x.pm = none) (key : Int) (hkey : 0 ≤ key ∧ key < (L.length : Int)) (k m : Int) : Calls Tryd.prog 26 #[.pointer (some ⟨tb, 0, none⟩), .int .i64 (n : Int), .int .i64 key, .agg #[.int .i64 k, .int .i64 m]] w
    fun e w' => e = .returned (.int .i64 0) ∧ ∃ b, Left w tb (L.set n (withProps x b [(key, k, m)])) F w' := by
  have hB : Below w.heap.size w (w.alloc (.cells #[.int .i64 k, .int .i64 m] 44)) := (Below.refl _ _).alloc (Nat.le_refl _) _
  have hbk : Blk (w.alloc (.cells #[.int .i64 k, .int .i64 m] 44)) w.heap.size 44 #[.int .i64 k, .int .i64 m] := heap_alloc_new w _
  have hlt : n < L.length := (List.getElem?_eq_some_iff.1 hn).1
  have hA := h.below hB
  have HAfter := hide fun L' w' (hl : Left (w.alloc (.cells #[.int .i64 k, .int .i64 m] 44)) tb L' F w') => Left.after hB hl
  have hmm := @run_makeMap Tryd.prog
  go_enter Tryd.func26, Tryd.ntmps26
  go_wp2_with fail
  generalize w.alloc (.cells #[.int .i64 k, .int .i64 m] 44) = w1 at *
  have HM := hide (made_any hA)
  have HH := hide (has_any hA n)
  rw [show decide (0 ≤ (n : Int) ∧ (n : Int) < (L.length : Int)) = true by simp; omega] at HH
  have HK := hide (has_any hA key)
  rw [show decide (0 ≤ key ∧ key < (L.length : Int)) = true by simp; omega] at HK
  obtain ⟨vs, ib, a1, a2, a3, a4, a5, a6⟩ := hA.holds
  obtain ⟨g, off, c, rfl, _, _, hg, hfz, hcell⟩ := a2.fld sym_len (by omega)
  have c0 : w1.cell? ⟨tb, 0, none⟩ = some (.slice (some ⟨g, off, none⟩) L.length c) := by rw [a1.cell]; rfl
  have q5 : w1.cell? ⟨g, off + n * 6 + 5, none⟩ = some (.map none) := by
    have q := hcell n x 5 _ hn rfl
    rw [hpm] at q
    exact q
  have f5 := hfz (off + n * 6 + 5)
  have p0 : w1.cell? ⟨w.heap.size, 0, none⟩ = some (.int .i64 k) := by rw [hbk.cell]; rfl
  have p1 : w1.cell? ⟨w.heap.size, 1, none⟩ = some (.int .i64 m) := by rw [hbk.cell]; rfl
  have hs1 := hB.size
  have lt2 := h.bound g (a5 g rfl)
  have hne : w.heap.size ≠ g := by omega
  clear hcell hfz
  refine (Calls.mono HM.out) ?_
  rintro e w2 ⟨rfl, rfl⟩
  go_wp2_with fail
  refine (Calls.mono HH.out) ?_
  rintro e w2 ⟨rfl, rfl⟩
  go_wp2_with fail
  refine (Calls.mono HK.out) ?_
  rintro e w2 ⟨rfl, rfl⟩
  go_wp2
  have hlt8 : g < w1.heap.size := hg
  have hblk : w.heap.size < w1.heap.size := lt_of_heap hbk
  have r5 : ((w1.setCell ⟨g, off + n * 6 + 5, none⟩ (.map (some w1.heap.size))).alloc (.map #[] 0)).cell? ⟨g, off + n * 6 + 5, none⟩ = some (.map (some w1.heap.size)) := by
    rw [World.cell?_alloc_old _ _ _ (by simp; omega)]
    exact World.cell?_setCell_same _ _ _ q5
  have hbk3 : Blk ((w1.setCell ⟨g, off + n * 6 + 5, none⟩ (.map (some w1.heap.size))).alloc (.map #[] 0)) w.heap.size 44 #[.int .i64 k, .int .i64 m] := (hbk.far (p := ⟨g, off + n * 6 + 5, none⟩) hne _).alloc _
  have hm3 : MapIs ((w1.setCell ⟨g, off + n * 6 + 5, none⟩ (.map (some w1.heap.size))).alloc (.map #[] 0)) w1.heap.size [] := by
    have := MapIs.new (w1.setCell ⟨g, off + n * 6 + 5, none⟩ (.map (some w1.heap.size)))
    rw [World.size_setCell] at this
    exact this
  have hS3 : Sl ((w1.setCell ⟨g, off + n * 6 + 5, none⟩ (.map (some w1.heap.size))).alloc (.map #[] 0)) 84 6 (.slice (some ⟨g, off, none⟩) L.length c) L.length (rows Sym.cells (L.set n (withProps x w1.heap.size [(key, k, m)]))) := by
    have hs := (a2.set (n * 6 + 5) (by rw [rows_len sym_len]; omega) (.map (some w1.heap.size))).alloc (.map #[] 0)
    rw [rows_set sym_len (withProps x w1.heap.size [(key, k, m)]) 5 (.map (some w1.heap.size)) L n x hn (by decide) rfl] at hs
    exact hs
  have hng : tb ≠ g := fun e => a2.ne_blk a1 (by decide) (by rw [e]; rfl)
  have hT3 := (a1.far (p := ⟨g, off + n * 6 + 5, none⟩) hng (.map (some w1.heap.size))).alloc (.map #[] 0)
  have hO3 := ((Only.refl F w1).setCell (p := ⟨g, off + n * 6 + 5, none⟩) (.inl (a5 g rfl)) (.map (some w1.heap.size))).alloc (.map #[] 0)
  have hM3 : ∀ b l, MapIs w1 b l → MapIs ((w1.setCell ⟨g, off + n * 6 + 5, none⟩ (.map (some w1.heap.size))).alloc (.map #[] 0)) b l := fun b l h => (h.setCell _ _).alloc _
  have hz3 : ((w1.setCell ⟨g, off + n * 6 + 5, none⟩ (.map (some w1.heap.size))).alloc (.map #[] 0)).heap.size = w1.heap.size + 1 := by simp
  generalize ((w1.setCell ⟨g, off + n * 6 + 5, none⟩ (.map (some w1.heap.size))).alloc (.map #[] 0)) = w3 at *
  have p30 : w3.cell? ⟨w.heap.size, 0, none⟩ = some (.int .i64 k) := by rw [hbk3.cell]; rfl
  have p31 : w3.cell? ⟨w.heap.size, 1, none⟩ = some (.int .i64 m) := by rw [hbk3.cell]; rfl
  obtain ⟨w4, hr, hm4, ho4⟩ := hm3.drew.update (P := Tryd.prog) (KeysOf.nil _) Tryd.underlying82 Tryd.underlying3 (.int .i64 key) (.agg #[.int .i64 k, .int .i64 m])
  have HW := hide (show Left w1 tb (L.set n (withProps x w1.heap.size [(key, k, m)])) F w4 from by
    have hz4 := ho4.size
    have hz4' : w1.heap.size + 1 ≤ w4.heap.size := by rw [← hz3]; exact hz4
    have hM4 : ∀ b l, MapIs w1 b l → MapIs w4 b l := fun b l h => (hM3 b l h).drew.only ho4 fun e => by have := h.lt; omega
    have hb : w1.heap.size ∉ propBlocks L := fun hm => by
      obtain ⟨s, hs, hz⟩ := List.mem_filterMap.1 hm
      rcases hA.props s hs with hp | ⟨b, hb, hF, _⟩
      · rw [hp.1] at hz; cases hz
      · rw [hb] at hz
        have := hA.bound b hF
        cases hz
        omega
    have hib := a3.lt
    have htb := hA.bound tb hA.self
    refine ⟨⟨⟨_, ib, hT3.drew.only ho4 (by omega), by simpa using hS3.drew.only ho4 (fun g' hg' e => by have e1 : g = g' := Option.some.inj hg'; have e2 : g' = w1.heap.size := e; omega), ?_, .inl a4, fun g' hg' => .inl (a5 g' hg'), fun hm => ?_⟩, fun s hs => ?_, nodup_props_set hpm rfl L n hn hb hA.nodup, .inl hA.self, fun z hz => ?_⟩, hO3.drew.trans' ho4 fun i hi => .inr (Nat.le_of_eq hi.symm)⟩
    · rw [index_set (x := x) (y := withProps x w1.heap.size [(key, k, m)]) rfl rfl L n 0 hn]
      exact hM4 _ _ a3
    · rcases mem_props_set rfl hm with hm | hm
      · exact a6 hm
      · omega
    · rcases List.mem_or_eq_of_mem_set hs with hs | rfl
      · rcases hA.props s hs with hp | ⟨b, hb, hF, hm⟩
        · exact .inl hp
        · exact .inr ⟨b, hb, .inl hF, hM4 _ _ hm⟩
      · exact .inr ⟨_, rfl, .inr ⟨Nat.le_refl _, by omega⟩, hm4⟩
    · rcases hz with hz | hz
      · have := hA.bound z hz
        omega
      · exact hz.2)
  clear hS3 hT3 hO3 hM3 hm3 hm4 ho4 a1 a2 a3 hA h
  go_region
  go_wp2
  go_ret
  exact ⟨rfl, _, HAfter.out _ _ HW.out⟩
end
end Go.Proofs.YtkhjdhoaephdkaaDoor
