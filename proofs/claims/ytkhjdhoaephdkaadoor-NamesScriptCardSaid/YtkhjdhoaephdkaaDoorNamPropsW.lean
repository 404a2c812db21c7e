/- Props: a symbol's properties in ascending order. No condition but those written. -/
import Derived.Test.YtkhjdhoaephdkaaDoorNamSame
import Derived.Test.YtkhjdhoaephdkaaDoorNamKeys
namespace Go.Proofs.YtkhjdhoaephdkaaDoor
open Go.RowKit

/-- The properties in ascending order of their names. -/
def sortP (l : List (Int × Int × Int)) : List (Int × Int × Int) := ((l.map (·.1)).mergeSort leI).map fun k => (k, (pget l k).getD (0, 0))
theorem sortP_len (l : List (Int × Int × Int)) : (sortP l).length = l.length := by simp [sortP]
theorem pairs_eq (l : List (Int × Int × Int)) : propPairs l = (l.map fun x => (x.1, Value.agg #[.int .i64 x.2.1, .int .i64 x.2.2])).map fun x => (.int .i64 x.1, x.2) := by simp [propPairs, Function.comp_def]
theorem info_prop : (Tryd.prog.info? 56).map (fun i => (i.zero, i.size, i.bytes)) = some (some (.agg #[.int .i64 0, .int .i64 0, .int .i64 0]), 3, 24) := by kernel_rfl
theorem pget_mem {l : List (Int × Int × Int)} {k : Int} (h : k ∈ l.map (·.1)) : ∃ v, pget l k = some v := by
  obtain ⟨x, hx, rfl⟩ := List.mem_map.1 h
  unfold pget
  cases hf : l.find? (fun y => x.1 == y.1) with
  | some y => exact ⟨y.2, rfl⟩
  | none =>
    have := List.find?_eq_none.1 hf x hx
    simp at this

/-- What Props leaves. -/
def PropsRes (w : World) (l : List (Int × Int × Int)) (e : Ending) (w' : World) : Prop := ∃ v, e = .returned v ∧ Sl w' 56 3 v l.length (rows pcells (sortP l)) ∧ (∀ g, v.ownBlock = some g → w.heap.size ≤ g) ∧ Below w.heap.size w w'
section
variable {tb : Nat} {L : List Sym} {F : Nat → Prop} {w : World}
set_option maxRecDepth 100000 in
set_option maxHeartbeats 4000000 in
theorem props_some (h : TableIs w tb L F) (n : Nat) (x : Sym) (hn : L[n]? = some x) (b : Nat) (hpm : x.pm = some b) (hnd : (x.props.map (·.1)).Nodup) (hwf : ∀ y ∈ x.props, (Lit.int .i64 y.1).wf = true) (hlen : x.props.length ≤ 100000) :
    Calls Tryd.prog 31 #[.pointer (some ⟨tb, 0, none⟩), .int .i64 (n : Int)] w (PropsRes w x.props) := by
  obtain ⟨i0, hi, hz0, hz1, hz2⟩ := info_parts info_prop
  have hlt : n < L.length := (List.getElem?_eq_some_iff.1 hn).1
  have HH := hide (has_any h n)
  rw [show decide (0 ≤ (n : Int) ∧ (n : Int) < (L.length : Int)) = true by simp; omega] at HH
  obtain ⟨vs, ib, a1, a2, a3, a4, a5, a6⟩ := h.holds
  obtain ⟨g, off, c, rfl, _, _, hg, hfz, hcell⟩ := a2.fld sym_len (by omega)
  have c0 : w.cell? ⟨tb, 0, none⟩ = some (.slice (some ⟨g, off, none⟩) L.length c) := by rw [a1.cell]; rfl
  have q5 : w.cell? ⟨g, off + n * 6 + 5, none⟩ = some (.map (some b)) := by
    have q := hcell n x 5 _ hn rfl
    rw [hpm] at q
    exact q
  have hm : MapIs w b (propPairs x.props) := by
    rcases h.props x (List.mem_of_getElem? hn) with hp | ⟨b', hb', _, hm⟩
    · rw [hpm] at hp
      cases hp.1
    · rw [hpm] at hb'
      cases hb'
      exact hm
  have htl : tb < w.heap.size := a1.lt
  have HTL := hide htl
  have HM := hide hm
  have hm' := hm
  rw [pairs_eq] at hm'
  have hsort := sorted_fn b (x.props.map fun y => (y.1, Value.agg #[.int .i64 y.2.1, .int .i64 y.2.2])) w hm' (by simpa [Function.comp_def] using hnd) (fun y hy => by obtain ⟨z, hz, rfl⟩ := List.mem_map.1 hy; exact hwf z hz) (by simp; omega)
  simp only [List.length_map, List.map_map] at hsort
  have HSORT := hide hsort
  have HI := hide hi
  have HZ := hide hz0
  have HZ1 := hide hz1
  have HZ2 := hide hz2
  clear h hn hpm hnd hwf a1 a2 a3 a4 a5 a6 hfz hcell hm hm' hsort hi hz0 hz1 hz2 htl
  generalize hP : x.props = P at *
  go_enter Tryd.func31, Tryd.ntmps31
  go_wp2_with fail
  refine (Calls.mono HH.out) ?_
  rintro e w2 ⟨rfl, rfl⟩
  go_wp2_with fail
  refine (keys_fn (some b) w).mono ?_
  rintro e w2 ⟨rfl, rfl⟩
  go_wp2_with fail
  refine (Calls.mono HSORT.out) ?_
  rintro e w2 ⟨v, rfl, hs, hb⟩
  have hs2 : Sl w2 3 1 v P.length (((P.map (·.1)).mergeSort leI).map (Value.int .i64)) := hs
  have hsp : sortP P = ((P.map (·.1)).mergeSort leI).map fun k => (k, (pget P k).getD (0, 0)) := rfl
  have hkl : ((P.map (·.1)).mergeSort leI).length = P.length := by simp
  have hkm : ∀ k ∈ (P.map (·.1)).mergeSort leI, ∃ v, pget P k = some v := fun k hk => pget_mem (by simpa using hk)
  generalize (P.map (·.1)).mergeSort leI = ks at hs2 hsp hkl hkm
  have HSP := hide hsp
  have HKL := hide hkl
  have HKM := hide hkm
  have HS2 := hide hs2
  have HB := hide hb
  have d0 : w2.cell? ⟨tb, 0, none⟩ = some (.slice (some ⟨g, off, none⟩) L.length c) := (World.cell?_of_block (hb.block tb HTL.out)).trans c0
  obtain ⟨A, cc, rfl, _⟩ := hs2.form
  clear hs hs2 hsp hkl hkm HSORT HH hb
  go_wp2
  go_loopw [5, 23] (fun u i wr => ∃ k : Nat, k ≤ P.length ∧ i = .int .i64 (k : Int) ∧ Sl wr 56 3 u k (rows pcells ((sortP P).take k)) ∧ (∀ g, u.ownBlock = some g → w2.heap.size ≤ g) ∧ Below w2.heap.size w2 wr) (fun _ i _ => P.length - (intOf i).toNat)
  case atStart => exact ⟨0, Nat.zero_le _, rfl, Sl.nil _ _ _, fun g hg => by simp [Value.ownBlock] at hg, Below.refl _ _⟩
  case round =>
    obtain ⟨k, hk, rfl, hu, hown, hbl⟩ := hrel
    by_cases hlt : k < P.length
    · have hz : decide ((k : Int) < (P.length : Int)) = true := by simp; omega
      have hlt2 : k < ks.length := by have := HKL.out; omega
      obtain ⟨y, hy⟩ : ∃ y, ks[k]? = some y := ⟨_, List.getElem?_eq_getElem hlt2⟩
      obtain ⟨pv, hpv⟩ := HKM.out y (List.mem_of_getElem? hy)
      obtain ⟨gs, os, cs, hvs, _, _, hcs, _, hgl⟩ := HS2.out.at_ (by omega)
      obtain ⟨rfl, rfl⟩ : A = some ⟨gs, os, none⟩ ∧ cc = cs := by
        injection hvs with e1 _ e2
        exact ⟨e1, e2⟩
      have r0 : wr.cell? ⟨gs, os + k, none⟩ = some (.int .i64 y) := (World.cell?_of_block (hbl.block gs hgl)).trans (hcs k _ (by simp [hy]))
      have hws := HB.out.size
      have r1 : wr.cell? ⟨tb, 0, none⟩ = some (.slice (some ⟨g, off, none⟩) L.length c) := (World.cell?_of_block (hbl.block tb (by have := HTL.out; omega))).trans d0
      have hgw : g < w.heap.size := World.block_lt_of_cell? _ _ q5
      have r5 : wr.cell? ⟨g, off + n * 6 + 5, none⟩ = some (.map (some b)) := (World.cell?_of_block (hbl.block g (by omega))).trans ((World.cell?_of_block (HB.out.block g hgw)).trans q5)
      have hm : MapIs wr b (propPairs P) := (HM.out.only (.of_below (F := fun _ => False) HB.out) fun f => f).same (hbl.block b (by have := HM.out.lt; omega))
      have HG := hide (show mget (propPairs P) (.int .i64 y) = some (.agg #[.int .i64 pv.1, .int .i64 pv.2]) by rw [prop_get, hpv]; rfl)
      have HKeys := hide (prop_keys P)
      have hx1 : (sortP P)[k]? = some (y, pv) := by rw [HSP.out, List.getElem?_map, hy]; simp [hpv]
      have HT := hide (show rows pcells ((sortP P).take k) ++ [.int .i64 y, .int .i64 pv.1, .int .i64 pv.2] = rows pcells ((sortP P).take (k + 1)) by
        rw [List.take_add_one, hx1, rows_append]
        rfl)
      have HU := hide hu
      have HOWN := hide hown
      have HBL := hide hbl
      have HLT := hide hlt
      have HW := hide (show w2.heap.size ≤ wr.heap.size from hbl.size)
      clear hu hown hbl hy hpv hvs hcs hlt2 hgl hws hx1 hk
      go_wp2_with (first | (at_lookup; go_loud (refine wpList_lookup_is rfl _ _ false rfl Tryd.underlying82 Tryd.underlying3 _ (zero_word _) rfl hm HKeys.out (.int .i64 y) rfl (.int _ _) _ HG.out ?_)) | (at_builtin; go_loud (refine wpList_append_sl rfl (.tmp 27) (.tmp 40) 57 rfl 56 i0 _ 3 24 Tryd.underlying57 HI.out HZ.out HZ1.out HZ2.out rfl _ k (rows pcells ((sortP P).take k)) rfl (HU.out.alloc _) _ rfl 1 _ (rd_elem wr 56 3 [.int .i64 y, .int .i64 pv.1, .int .i64 pv.2] rfl) (pcells_one (y, pv)) ?b1 ?b2 ?_)))
      case b1 => unfold maxLen; have := HLT.out; omega
      case b2 => have := HLT.out; omega
      intro v' w' hsl honly hv'
      have HN := hide (show Sl w' 56 3 v' (k + 1) (rows pcells ((sortP P).take (k + 1))) ∧ (∀ g, v'.ownBlock = some g → w2.heap.size ≤ g) ∧ Below w2.heap.size w2 w' from by
        refine ⟨by rw [← HT.out]; exact hsl, fun g' hg' => ?_, (HBL.out.alloc HW.out _).trans (honly.below (by simp; have := HW.out; omega) fun i hi => HOWN.out i hi)⟩
        rcases hv' with e | e
        · exact HOWN.out g' (e ▸ hg')
        · rw [e] at hg'
          injection hg' with hg'
          have := HW.out
          omega)
      clear hsl honly hv' hm r0 r1 r5
      go_wp2
      go_roundw
      case rel => exact ⟨k + 1, HLT.out, by go_num, HN.out.1, HN.out.2.1, HN.out.2.2⟩
      case measure => have := HLT.out; simp [intOf]; omega
    · have hz : decide ((k : Int) < (P.length : Int)) = false := by simp; omega
      obtain rfl : k = P.length := by omega
      have HE := hide (show (sortP P).take P.length = sortP P from List.take_of_length_le (by rw [sortP_len]; exact Nat.le_refl _))
      have HU := hide hu
      have HOWN := hide hown
      have HBL := hide hbl
      clear hu hown hbl hk hlt
      go_wp2
      go_ret
      have h1 := HU.out
      rw [HE.out] at h1
      have hws := HB.out.size
      exact ⟨_, rfl, h1, fun g' hg' => Nat.le_trans hws (HOWN.out g' hg'), HB.out.trans (HBL.out.mono hws)⟩
end
end Go.Proofs.YtkhjdhoaephdkaaDoor
