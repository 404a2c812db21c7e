/- runes.List: the program's list of a string's characters. No condition but those written. -/
import Derived.Test.YtdojcgefiekleaaDoorScb
import Derived.Lib.OthersKept
namespace Go.Proofs.YtdojcgefiekleaaDoor
open Go.RowKit

theorem charsL_at {s : ByteArray} {pos : Nat} (hp : pos < s.size) (hv : (charsL (s.data.toList.drop pos)).isSome = true) : 0 ≤ (Utf8.decode s pos).1 ∧ charsL (s.data.toList.drop pos) = (charsL (s.data.toList.drop (pos + (Utf8.decode s pos).2))).map ((Utf8.decode s pos).1 :: ·) ∧ 1 ≤ (Utf8.decode s pos).2 ∧ (Utf8.decode s pos).1 ≤ 1114111 ∧ pos + (Utf8.decode s pos).2 ≤ s.size := by
  have h2 : s.size = s.data.size := rfl
  have hne : s.data.toList.drop pos ≠ [] := by
    intro e
    have := List.drop_eq_nil_iff.1 e
    simp at this
    omega
  rw [charsL_step _ hne] at hv
  split at hv
  · cases hv
  · rename_i hz
    have hd : ¬ ((Lib.decodeL (s.data.toList.drop pos)).1 = 65533 ∧ (Lib.decodeL (s.data.toList.drop pos)).2 = 1) := fun e => hz ((pointL_zero _).2 e)
    have he : pointL (s.data.toList.drop pos) = Utf8.decode s pos := by rw [pointL_eq, if_neg hd, Lib.decodeL_drop]
    refine ⟨by omega, ?_, Lib.width_pos s pos, ?_, ?_⟩
    · rw [charsL_step _ hne, if_neg hz, List.drop_drop, he]
    · rw [← he]
      exact pointL_rune _
    · have := (pointL_width _ hne).1
      rw [he, List.length_drop] at this
      have h3 : s.data.toList.length = s.size := rfl
      omega
theorem Sl.ne_iter {w : World} {T : TypeId} {k n g pos : Nat} {v : Value} {xs : List Value} {s : ByteArray} (h : Sl w T k v n xs) (hg : w.heap[g]? = some (.stringIter s pos)) : v.ownBlock ≠ some g := by
  rcases h.2 with ⟨rfl, _⟩ | ⟨g', off, cap, cs, rfl, hh, _⟩
  · simp [Value.ownBlock]
  · intro e
    simp [Value.ownBlock] at e
    subst e
    rw [hh] at hg
    cases hg
theorem Sl.iterAt {w : World} {T : TypeId} {k n g pos : Nat} {v : Value} {xs : List Value} {s : ByteArray} (h : Sl w T k v n xs) (hg : w.heap[g]? = some (.stringIter s pos)) (pos' : Nat) : Sl (w.iterAt g s pos') T k v n xs :=
  h.same fun b hb => Lib.iterAt_other w g b s pos' fun e => h.ne_iter hg (e ▸ hb)
theorem iterPos_of {w : World} {k pos : Nat} {s : ByteArray} (h : w.heap[k]? = some (.stringIter s pos)) : w.iterPos k = pos := by simp [World.iterPos, h]
set_option maxRecDepth 100000 in
set_option maxHeartbeats 4000000 in
theorem rlist_any (s : ByteArray) (w : World) (hs : s.size * 8 ≤ 140737488355328) (hT : Tabs w) : Calls Tryd.prog 71 #[.string s] w (ListRes s w) := by
  obtain ⟨i0, hi, hz0, hz1, hz2⟩ := info_parts info_int
  have HV := hide (valid_any s w (by omega) hT)
  clear hT
  obtain ⟨vb, hvb⟩ : ∃ vb, vb = validS s := ⟨_, rfl⟩
  rw [← hvb] at HV
  have HB := hide hvb
  clear hvb
  cases vb
  · go_enter Tryd.func71, Tryd.ntmps71
    go_wp2_with (go_at_call 87; refine (Calls.mono HV.out) ?_; rintro e w1 ⟨rfl, hb1⟩)
    go_ret2
    refine ⟨hb1, ?_⟩
    have h : (charsL s.data.toList).isSome = false := HB.out.symm
    rw [Option.isSome_eq_false_iff, Option.isNone_iff_eq_none] at h
    rw [h]
    rfl
  · go_enter Tryd.func71, Tryd.ntmps71
    go_wp2_with (go_at_call 87; refine (Calls.mono HV.out) ?_; rintro e w1 ⟨rfl, hb1⟩)
    have hsz1 := hb1.size
    go_loopw [4] (fun v wr => ∃ (pos : Nat) (done : List Nat), charsL s.data.toList = (charsL (s.data.toList.drop pos)).map (done ++ ·) ∧ Sl wr 3 1 v done.length (ints done) ∧ wr.heap[w1.heap.size]? = some (.stringIter s pos) ∧ Below w.heap.size w wr ∧ (∀ g, v.ownBlock = some g → w.heap.size ≤ g) ∧ done.length ≤ pos ∧ pos ≤ s.size) (fun _ wr => s.size - wr.iterPos w1.heap.size)
    case atStart =>
      refine ⟨0, [], by simp, Sl.nil _ _ _, ?_, hb1.alloc hsz1 _, fun g h => by simp [Value.ownBlock] at h, Nat.zero_le _, Nat.zero_le _⟩
      exact World.iter_heap w1 s 0
    case round =>
      obtain ⟨pos, done, hch, hsl, hit, hb, hown, hdl, hps⟩ := hrel
      have HIT := hide hit
      have HSL := hide hsl
      have HB2 := hide hb
      have HO := hide hown
      have HC := hide hch
      have hv : (charsL (s.data.toList.drop pos)).isSome = true := by
        have h : (charsL s.data.toList).isSome = true := HB.out.symm
        rw [hch] at h
        simpa using h
      by_cases hp : pos < s.size
      · obtain ⟨p1, p2, p3, p4, p5⟩ := charsL_at hp hv
        have hnx : ∀ ty, (Instr.next (.pointer (some ⟨w1.heap.size, 0, none⟩)) true ty).run Tryd.prog wr = _ := fun ty => Lib.run_next_any_at wr w1.heap.size s pos ty hit hp
        have HSL2 := hide (hsl.iterAt hit (pos + (Utf8.decode s pos).2))
        have HIT2 := hide (Lib.iterAt_heap wr w1.heap.size s pos (pos + (Utf8.decode s pos).2) hit)
        have HB3 := hide (Lib.below_iterAt hb (k := w1.heap.size) hsz1 s (pos + (Utf8.decode s pos).2))
        obtain ⟨ch, hch2⟩ : ∃ ch, ch = (Utf8.decode s pos).1 := ⟨_, rfl⟩
        obtain ⟨wd, hwd⟩ : ∃ wd, wd = (Utf8.decode s pos).2 := ⟨_, rfl⟩
        rw [← hch2] at p2 p4 hnx
        rw [← hwd] at p2 p3 p5 hnx HSL2 HIT2 HB3
        have HP2 := hide p2
        clear hit hsl hb hown hch hv p1 p2 hch2 hwd
        have q1 : (ch : Int) ≤ 1114111 := by omega
        go_wp2_with (at_builtin; refine wpList_append_sl rfl (.tmp 15) (.tmp 18) 24 rfl 3 i0 (.int .i64 0) 1 8 Tryd.underlying24 hi hz0 hz1 hz2 rfl _ done.length (ints done) rfl (HSL2.out.alloc _) _ rfl 1 [_] (rd_one _ _ _) ?one ?b1 ?b2 ?_)
        case one => intro u hu; simp at hu; subst hu; rfl
        case b1 => unfold maxLen; omega
        case b2 => omega
        intro v' w' hsl' honly hv'
        have HL2 := hide hsl'
        have HY2 := hide honly
        have HV2 := hide hv'
        clear hsl' honly hv' hnx
        go_wp2
        have hk := (HSL2.out).ne_iter HIT2.out
        have hlt := lt_of_heap HIT2.out
        have hB : Below w.heap.size w w' := HB3.out.trans ((((Only.refl (fun b => u4.ownBlock = some b) _).alloc _).trans HY2.out).below HB3.out.size fun i hi => HO.out i hi)
        have h1 : ((wr.iterAt w1.heap.size s (pos + wd)).alloc (.cells #[Value.int IntKind.i64 ↑ch] 3)).heap[w1.heap.size]? = some (.stringIter s (pos + wd)) := (Below.heap_alloc _ _ _ hlt).trans HIT2.out
        have hit2 := (HY2.out.block _ (by rw [World.size_alloc]; omega) hk).trans h1
        refine ⟨⟨pos + wd, done ++ [ch], ?_, by rw [ints_snoc, List.length_append]; exact HL2.out, ?_, hB, ?_, by rw [List.length_append]; simp; omega, p5⟩, ?_⟩
        · rw [HC.out, HP2.out, Option.map_map]
          congr 1
          funext x
          simp
        · exact hit2
        · intro g hg
          rcases HV2.out with h | h
          · exact HO.out g (h ▸ hg)
          · rw [h] at hg
            injection hg with hg
            have := HB3.out.size
            omega
        · rw [iterPos_of hit2, iterPos_of HIT.out]
          omega
      · have hnx : ∀ ty, (Instr.next (.pointer (some ⟨w1.heap.size, 0, none⟩)) true ty).run Tryd.prog wr = _ := fun ty => Lib.run_next_end_at wr w1.heap.size s pos ty hit hp
        clear hit hsl hb hown hch hv
        go_wp2
        go_ret2
        refine ⟨HB2.out, ?_⟩
        have h2 : s.size = s.data.size := rfl
        have e : s.data.toList.drop pos = [] := List.drop_eq_nil_of_le (by simp; omega)
        rw [HC.out, e, charsL_nil]
        exact ⟨u4, rfl, by simpa using HSL.out, HO.out⟩
theorem list_two {s : ByteArray} {w w' : World} {e : Ending} (h : ListRes s w e w') : ∃ v n, e = .returned (.tuple #[v, .int .i64 n]) ∧ ListRes s w (.returned (.tuple #[v, .int .i64 n])) w' := by
  have h0 := h
  obtain ⟨_, h⟩ := h
  split at h
  · obtain ⟨v, rfl, _⟩ := h
    exact ⟨v, 0, rfl, h0⟩
  · exact ⟨_, 5, h, h ▸ h0⟩
/-- A table's characters. -/
theorem chars_any {w : World} {p : TL} {T : Tb} (h : TabAt w p T) (s : ByteArray) (hs : s.size * 8 ≤ 140737488355328) (hT : Tabs w) : Calls Tryd.prog 43 #[.pointer (some ⟨p.t, 0, none⟩), .string s] w (ListRes s w) := by
  have HN := hide (none_some h)
  have HR := hide (rlist_any s w hs hT)
  clear h hT
  go_enter Tryd.func43, Tryd.ntmps43
  go_wp2_with (first | (go_at_call 61; refine (Calls.mono HN.out) ?_; rintro e w' ⟨rfl, rfl⟩) | (go_at_call 71; refine (Calls.mono HR.out) ?_; rintro e w2 h2; rcases list_two h2 with ⟨v, n, rfl, h3⟩))
  go_ret2
  exact h3
end Go.Proofs.YtdojcgefiekleaaDoor
