/- The walk of Unbind where all bindings are of the default. No condition but those written. -/
import Derived.Test.YtempnakdpmmmoaaVarV
import Derived.IntWalk
import Derived.Laws.EntriesVeiled
namespace Go.Proofs.Ytempnakdpmmmoaa
open Go.RowKit
attribute [local go_sem] neq_cells

theorem nodup_inj {α : Type} {f : α → Nat} : ∀ {l : List α}, (l.map f).Nodup → ∀ {a b : α}, a ∈ l → b ∈ l → f a = f b → a = b
  | [], _, a, _, ha, _, _ => by simp at ha
  | x :: l, h, a, b, ha, hb, e => by
    simp only [List.map_cons, List.nodup_cons] at h
    rcases List.mem_cons.1 ha with h1 | h1 <;> rcases List.mem_cons.1 hb with h2 | h2
    · rw [h1, h2]
    · exact absurd (List.mem_map.2 ⟨b, h2, by rw [← e, h1]⟩) h.1
    · exact absurd (List.mem_map.2 ⟨a, h1, by rw [e, h2]⟩) h.1
    · exact nodup_inj h.2 h1 h2 e
theorem fnd_updL (g : Nat) (c : Cel) (m : Int) : ∀ l : List Ent, fnd (updL l g c) m = (fnd l m).map fun e => if e.g = g then { e with c := c } else e
  | [] => rfl
  | e :: l => by
    have ih := fnd_updL g c m l
    simp only [fnd, updL] at ih
    simp only [fnd, updL, List.map_cons, List.find?_cons]
    have e1 : (if e.g = g then ({ e with c := c } : Ent) else e).n = e.n := by split <;> rfl
    rw [e1]
    split
    · rfl
    · exact ih
section
variable {W w w' : World} {b : Vb} {s : Vst} {R : Heap}
theorem VarsAt.defs_nodup (h : VarsAt W w b s R) : (s.defs.map (·.g)).Nodup := by
  have h1 := h.own.left.right.left.nod
  simpa [Heap.blocks, entHeap, Function.comp_def] using h1
/-- A store into a default's cell: the defaults behind it. -/
theorem dflt_upd {s : Vst} (h : (s.defs.map (·.g)).Nodup) {n : Int} {g : Nat} {c0 : Cel} (hf : fnd s.defs n = some ⟨n, g, c0⟩) (c : Cel) (m : Int) : (s.upd g c).dflt m = if m = n then c else s.dflt m := by
  unfold Vst.dflt
  show ((fnd (updL s.defs g c) m).map (·.c)).getD Cel.zero = _
  rw [fnd_updL]
  by_cases hm : m = n
  · subst hm
    simp [hf]
  · rw [if_neg hm]
    cases hx : fnd s.defs m with
    | none => rfl
    | some e =>
      have h1 := fnd_mem hx
      have h2 := fnd_mem hf
      have : e.g ≠ g := fun eg => by
        have := nodup_inj h h1.1 h2.1 eg
        rw [this] at h1
        exact hm h1.2.symm
      simp [this]
theorem upd_blocks (s : Vst) (g : Nat) (c : Cel) : ((s.upd g c).defs.map (·.g)) = s.defs.map (·.g) := by
  show (updL s.defs g c).map (·.g) = _
  simp only [updL, List.map_map]
  refine List.map_congr_left fun e _ => ?_
  simp only [Function.comp]
  split <;> rfl
theorem updX_blocks (g : Nat) (c : Cel) : ∀ l : List Loc, Heap.blocks (locHeap (updX l g c)) = Heap.blocks (locHeap l)
  | [] => rfl
  | x :: l => by
    have ih := updX_blocks g c l
    have e : ∀ y : Loc, locHeap (y :: l) = ((y.g, .map (entPairs y.es)) :: entHeap y.es) ++ locHeap l := fun _ => rfl
    have e2 : locHeap (updX (x :: l) g c) = ((x.g, .map (entPairs (updL x.es g c))) :: entHeap (updL x.es g c)) ++ locHeap (updX l g c) := rfl
    rw [e, e2, Heap.blocks_append, Heap.blocks_append, ih, updL_heap, Heap.blocks_cons, Heap.blocks_cons, Heap.blocks_put]
theorem VarsAt.updX_absent {g : Nat} {c c0 : Cel} {n : Int} (h : VarsAt W w b (s.upd g c) R) (hf : fnd s.defs n = some ⟨n, g, c0⟩) : updX s.locs g c = s.locs := by
  have h1 := h.own.left.right.nod
  have h2 : g ∈ Heap.blocks (entHeap (s.upd g c).defs) := by
    show g ∈ Heap.blocks (entHeap (updL s.defs g c))
    rw [updL_heap, Heap.blocks_put]
    exact List.mem_map.2 ⟨(g, celA c0), List.mem_map.2 ⟨_, (fnd_mem hf).1, rfl⟩, rfl⟩
  have h3 := nodup_sep h1 h2
  rw [Heap.blocks_append, List.mem_append] at h3
  have h4 : g ∉ Heap.blocks (locHeap s.locs) := fun hg => h3 (.inl (by show g ∈ Heap.blocks (locHeap (updX s.locs g c)); rw [updX_blocks]; exact hg))
  refine (List.map_congr_left fun x hx => ?_).trans (List.map_id s.locs)
  have : updL x.es g c = x.es := updL_absent fun e he eg => h4 (by
    rw [← eg]
    exact List.mem_map.2 ⟨(e.g, celA e.c), List.mem_flatMap.2 ⟨x, hx, List.mem_cons_of_mem _ (List.mem_map.2 ⟨e, he, rfl⟩)⟩, rfl⟩)
  rw [this]
  rfl
theorem dflt_glob (s : Vst) (n : Int) (g : Nat) (m : Int) : (s.glob n g).dflt m = s.dflt m := by
  unfold Vst.glob
  split
  · rfl
  · next hn =>
    unfold Vst.dflt Vst.addDef
    simp only [Bool.not_eq_true, Option.isSome_eq_false_iff, Option.isNone_iff_eq_none] at hn
    unfold fnd at *
    rw [List.find?_append]
    cases hm : s.defs.find? (fun e => m == e.n) with
    | some e => rfl
    | none =>
      by_cases e : m = n <;> simp [e, Cel.zero]
theorem glob_notes (s : Vst) (n : Int) (g : Nat) : (s.glob n g).notes = s.notes := by unfold Vst.glob; split <;> rfl
theorem glob_marks (s : Vst) (n : Int) (g : Nat) : (s.glob n g).marks = s.marks := by unfold Vst.glob; split <;> rfl
theorem glob_locs (s : Vst) (n : Int) (g : Nat) : (s.glob n g).locs = s.locs := by unfold Vst.glob; split <;> rfl
end

/-- The value that a variable's default has again when all bindings from number j on are undone. -/
def rewound (l : List Nte) (f : Int → Cel) (j : Nat) (m : Int) : Cel := ((((l.drop j).find? fun x => m == x.n)).map (·.c)).getD (f m)
theorem rewound_end (l : List Nte) (f : Int → Cel) (m : Int) : rewound l f l.length m = f m := by simp [rewound]
theorem rewound_step {l : List Nte} {f : Int → Cel} {j : Nat} {x : Nte} (hx : l[j]? = some x) (m : Int) : rewound l f j m = if m = x.n then x.c else rewound l f (j + 1) m := by
  obtain ⟨hj, he⟩ := List.getElem?_eq_some_iff.1 hx
  unfold rewound
  rw [List.drop_eq_getElem_cons hj, he, List.find?_cons]
  by_cases hm : m = x.n
  · simp [hm]
  · have : (m == x.n) = false := by simpa using hm
    rw [this, if_neg hm]
def UnbG (W : World) (b : Vb) (s : Vst) (R : Heap) (d : Nat) (w' : World) : Prop :=
  ∃ v s', VarsAt W w' (b.withNv v) s' R ∧ s'.notes = s.notes.take d ∧ (∀ m, s'.dflt m = rewound s.notes s.dflt d m) ∧ s'.locs = s.locs ∧ s'.marks = s.marks ∧ s'.scope = s.scope
section
variable {W w w' : World} {b : Vb} {s : Vst} {R : Heap}
set_option maxRecDepth 100000 in
set_option maxHeartbeats 4000000 in
theorem unbind_ok (h : VarsAt W w b s R) (h0 : ∀ x ∈ s.notes, x.s = 0) (d : Nat) (hd : d ≤ s.notes.length) (hlen : s.notes.length ≤ 2000) : Calls Try.prog 12 #[.pointer (some ⟨b.vb, 0, none⟩), .int .i64 (d : Int)] w
    fun r w' => r = .returned (.int .i64 0) ∧ UnbG W b s R d w' := by
  have HM := hide (made_any h)
  obtain ⟨A, c, hv, hc, _⟩ := h.sl.form
  have c3 : w.cell? ⟨b.vb, 3, none⟩ = some (.slice A s.notes.length c) := by rw [h.vb.cell, ← hv]; rfl
  have hz1 : decide ((d : Int) < 0) = false := by simp
  have hz2 : decide (s.notes.length < d) = false := by simp; omega
  have H0 := hide h0
  have HD := hide hd
  have HLEN := hide hlen
  have H := hide h
  clear h h0 hd hv hlen hc
  go_enter Try.func12, Try.ntmps12
  go_wp2_with fail
  refine (Calls.mono HM.out) ?_
  rintro e w2 ⟨rfl, rfl⟩
  clear HM
  go_wp2
  go_loopw [] (fun wr => ∃ j v s', d ≤ j ∧ j ≤ s.notes.length ∧ VarsAt W wr (b.withNv v) s' R ∧ s'.notes = s.notes.take j ∧ (∀ m, s'.dflt m = rewound s.notes s.dflt j m) ∧ s'.locs = s.locs ∧ s'.marks = s.marks ∧ s'.scope = s.scope) (fun wr => match wr.cell? ⟨b.vb, 3, none⟩ with | some (.slice _ n _) => n | _ => 0)
  case atStart => exact ⟨s.notes.length, b.nv, s, HD.out, Nat.le_refl _, H.out, by simp, fun m => (rewound_end _ _ _).symm, rfl, rfl, rfl⟩
  case round =>
    obtain ⟨j, v, s', hdj, hj, hV, hn, hdf, hlo, hma, hsc⟩ := hrel
    have hlen' : s'.notes.length = j := by rw [hn]; simp; omega
    have hL2 := HLEN.out
    obtain ⟨A2, c2, hv2, hc2, _⟩ := hV.sl.form
    rw [hlen'] at hv2 hc2
    have q3 : wr.cell? ⟨b.vb, 3, none⟩ = some (.slice A2 j c2) := by rw [show wr.cell? ⟨b.vb, 3, none⟩ = _ from hV.vb.cell 3]; show some (b.withNv v).nv = _; rw [hv2]
    by_cases hlt : d < j
    · obtain ⟨i, rfl⟩ : ∃ i, j = i + 1 := ⟨j - 1, by omega⟩
      have hz : decide (d < i + 1) = true := by simp; omega
      obtain ⟨x, hx⟩ : ∃ x, s.notes[i]? = some x := ⟨_, List.getElem?_eq_getElem (by omega)⟩
      have hnx : s'.notes = s.notes.take i ++ [x] := by
        rw [hn, List.take_succ_eq_append_getElem (by omega)]
        congr
        exact (List.getElem?_eq_some_iff.1 hx).2
      have hxs : x.s = 0 := H0.out x (List.mem_of_getElem? hx)
      have hsl := hV.sl
      obtain ⟨g, off, c4, hv4, _, _, hg, hfz, hcell⟩ := hsl.fld nte_len (by omega)
      have hat : s'.notes[i]? = some x := by rw [hnx]; simp [show (s.notes.take i).length = i by simp; omega]
      obtain ⟨hA2, hcc⟩ : A2 = some ⟨g, off, none⟩ ∧ c2 = c4 := by
        rw [hv4] at hv2
        injection hv2 with e1 _ e2
        exact ⟨e1.symm, e2.symm⟩
      subst hA2 hcc
      have p0 : wr.cell? ⟨g, off + i * 6, none⟩ = some (.int .i64 x.c.k) := hcell i x 0 _ hat rfl
      have p1 : wr.cell? ⟨g, off + i * 6 + 1, none⟩ = some (.int .i64 x.c.n) := hcell i x 1 _ hat rfl
      have p2 : wr.cell? ⟨g, off + i * 6 + 2, none⟩ = some (.bool x.c.b) := hcell i x 2 _ hat rfl
      have p3 : wr.cell? ⟨g, off + i * 6 + 3, none⟩ = some (.int .i64 x.n) := hcell i x 3 _ hat rfl
      have p4 : wr.cell? ⟨g, off + i * 6 + 4, none⟩ = some (.int .i64 x.s) := hcell i x 4 _ hat rfl
      have p5 : wr.cell? ⟨g, off + i * 6 + 5, none⟩ = some (.func (.func 36) #[] #[.pointer (some ⟨x.g1, 0, none⟩), .pointer (some ⟨x.g2, 0, none⟩)]) := hcell i x 5 _ hat rfl
      have f3 : wr.frozen? ⟨b.vb, 3, none⟩ = false := hV.vb.frozen 3
      have hvl : b.vb < wr.heap.size := hV.vb.lt
      have hlen3 : s'.notes.length = i + 1 := hlen'
      have hcut := hV.cut hnx (A := some ⟨g, off, none⟩) (c := c2) hv4
      have hli : (s.notes.take i).length = i := by simp; omega
      rw [hli] at hcut
      have HCUT := hide ((hcut.skip (.cells #[.int .i64 x.c.k, .int .i64 x.c.n, .bool x.c.b, .int .i64 x.n, .int .i64 x.s, .func (.func 36) #[] #[.pointer (some ⟨x.g1, 0, none⟩), .pointer (some ⟨x.g2, 0, none⟩)]] 64)).drew.drew)
      have HXS := hide hxs
      have HX := hide hx
      have HDF := hide hdf
      have HS := hide (And.intro hlo (And.intro hma hsc))
      have HI := hide (show d ≤ i ∧ i + 1 ≤ s.notes.length from ⟨by omega, hj⟩)
      have hic : i + 1 ≤ c2 := hc2
      clear hV hn hdf hlo hma hsc hx hnx hxs hsl hcell hfz hat hcut hlen' hli hv4 hv2 hlen3 hc2
      have hw : IntKind.i64.wrap (i : Int) = (i : Int) := IntWalk.i64_in _ (by omega)
      have hw2 : (i : Int) < (i : Int) + 1 := by omega
      go_wp2
      go_region
      go_wp2
      go_region
      go_wp2_with fail
      have hV3 := HCUT.out
      refine (back_global (b := b.withNv (.slice (some ⟨g, off, none⟩) i c2)) hV3 x.n x.c x.g1 x.g2 (by rw [HXS.out]; exact List.mem_cons_self ..) (List.mem_cons_of_mem _ (List.mem_cons_self ..))).mono ?_
      rintro r w4 ⟨rfl, g3, hf3, hV4⟩
      have HR := hide (show ∃ v s2, VarsAt W w4 (b.withNv v) s2 R ∧ s2.notes = s.notes.take i ∧ (∀ m, s2.dflt m = rewound s.notes s.dflt i m) ∧ s2.locs = s.locs ∧ s2.marks = s.marks ∧ s2.scope = s.scope from by
        refine ⟨_, _, hV4.drop.drop, ?_, fun m => ?_, ?_, ?_, ?_⟩
        · exact glob_notes _ _ _
        · have hnd := hV4.defs_nodup
          rw [upd_blocks] at hnd
          rw [dflt_upd hnd hf3, dflt_glob, rewound_step HX.out]
          split
          · rfl
          · exact HDF.out m
        · show updX ((s'.withNotes (s.notes.take i)).glob x.n g3).locs g3 x.c = _
          rw [hV4.updX_absent hf3, glob_locs]
          exact HS.out.1
        · show ((s'.withNotes (s.notes.take i)).glob x.n g3).marks = _
          rw [glob_marks]
          exact HS.out.2.1
        · show ((s'.withNotes (s.notes.take i)).glob x.n g3).scope = _
          rw [glob_scope]
          exact HS.out.2.2)
      have HQ := hide q3
      have HM4 := hide (show ∃ A4 c4, w4.cell? ⟨b.vb, 3, none⟩ = some (.slice A4 i c4) from by
        obtain ⟨v2, s2, h1, h2, _⟩ := HR.out
        obtain ⟨A4, c4, e4, _⟩ := h1.sl.form
        have hl4 : s2.notes.length = i := by rw [h2]; have := HI.out.2; simp; omega
        rw [hl4] at e4
        refine ⟨A4, c4, ?_⟩
        rw [show w4.cell? ⟨b.vb, 3, none⟩ = _ from h1.vb.cell 3]
        show some (b.withNv v2).nv = _
        rw [e4])
      clear hV3 hV4 hf3
      go_wp2
      go_roundw
      case rel => 
        obtain ⟨v2, s2, h1, h2, h3, h4, h5, h6⟩ := HR.out
        exact ⟨i, v2, s2, HI.out.1, by have := HI.out.2; omega, h1, h2, h3, h4, h5, h6⟩
      case measure =>
        obtain ⟨A4, c4, h4⟩ := HM4.out
        rw [h4, HQ.out]
        exact Nat.lt_succ_self i
    · have hz : decide (d < j) = false := by simp; omega
      have HV := hide hV
      have HJ := hide (show j = d by omega)
      have HN := hide hn
      have HDF := hide hdf
      have HS := hide (And.intro hlo (And.intro hma hsc))
      clear hV hn hdf hlo hma hsc hv2 hlen'
      go_wp2
      go_ret
      refine ⟨rfl, v, s', HV.out, ?_⟩
      rw [HN.out, HJ.out]
      refine ⟨rfl, fun m => ?_, HS.out.1, HS.out.2.1, HS.out.2.2⟩
      rw [HDF.out m, HJ.out]
end
end Go.Proofs.Ytempnakdpmmmoaa
