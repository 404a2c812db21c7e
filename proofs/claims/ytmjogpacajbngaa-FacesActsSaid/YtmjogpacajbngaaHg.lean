/- The map's faces beside the reference's: what both say is kept. No condition but those written. -/
import Derived.Test.YtmjogpacajbngaaHf
import Derived.Test.YtmjogpacajbngaaFs
namespace Go.Proofs.Ytmjogpacajbngaa
open Go.RowKit

/-- Both say the same; the reference's names ascend. -/
structure Rel (D L : Fm) : Prop where
  lk : ∀ s, look D s = look L s
  srt : (L.map (·.1)).Pairwise fun x y => x.data.toList < y.data.toList
theorem mem_look {D : Fm} (h : (D.map (·.1)).Nodup) (x : ByteArray × Att) : x ∈ D ↔ look D x.1 = some x.2 := by
  refine ⟨fun hx => ?_, fun hx => look_in hx⟩
  induction D with
  | nil => cases hx
  | cons y D ih =>
    rw [List.map_cons, List.nodup_cons] at h
    rw [look_cons]
    rcases List.mem_cons.1 hx with rfl | hx
    · rw [if_pos rfl]
    · rw [if_neg fun e => h.1 (by rw [← e]; exact List.mem_map.2 ⟨x, hx, rfl⟩)]
      exact ih h.2 hx
theorem nodup_pairs {D : Fm} (h : (D.map (·.1)).Nodup) : D.Nodup := by
  induction D with
  | nil => exact List.nodup_nil
  | cons x D ih =>
    rw [List.map_cons, List.nodup_cons] at h
    exact List.nodup_cons.2 ⟨fun hm => h.1 (List.mem_map.2 ⟨x, hm, rfl⟩), ih h.2⟩
theorem Rel.nd {D L : Fm} (h : Rel D L) : (L.map (·.1)).Nodup := h.srt.imp fun hlt e => by
  rw [e] at hlt
  exact List.lt_irrefl _ hlt
theorem Rel.perm {D L : Fm} (hD : (D.map (·.1)).Nodup) (h : Rel D L) : D.Perm L :=
  (List.perm_ext_iff_of_nodup (nodup_pairs hD) (nodup_pairs h.nd)).2 fun x => by rw [mem_look hD, mem_look h.nd, h.lk]
theorem lookZ_same {D L : Fm} (h : ∀ s, look D s = look L s) (s : ByteArray) : lookZ D s = lookZ L s := by
  unfold lookZ
  rw [h]
theorem Chain.same {D L : Fm} (h : ∀ s, look D s = look L s) {s : ByteArray} {xs : List ByteArray} (hc : Chain D s xs) : Chain L s xs := by
  induction hc with
  | nil => exact .nil
  | cons hs _ ih => exact .cons hs (by rw [← lookZ_same h]; exact ih)
theorem chainOf_same {D L : Fm} (h : ∀ s, look D s = look L s) (s : ByteArray) : chainOf D s = chainOf L s := by
  unfold chainOf
  congr 1
  funext xs
  exact propext ⟨fun hc => hc.same h, fun hc => hc.same fun s => (h s).symm⟩
theorem defE_same {D L : Fm} (hD : (D.map (·.1)).Nodup) (h : Rel D L) (n : ByteArray) (a : Att) : defE D n a = defE L n a := by
  unfold defE defErr
  rw [chainOf_same h.lk, h.lk, h.lk, (h.perm hD).length_eq]
theorem any_same {D L : Fm} (hp : D.Perm L) (p : ByteArray × Att → Bool) : D.any p = L.any p := by
  rw [Bool.eq_iff_iff, List.any_eq_true, List.any_eq_true]
  exact ⟨fun ⟨x, h1, h2⟩ => ⟨x, hp.mem_iff.1 h1, h2⟩, fun ⟨x, h1, h2⟩ => ⟨x, hp.mem_iff.2 h1, h2⟩⟩
theorem dropE_same {D L : Fm} (hD : (D.map (·.1)).Nodup) (h : Rel D L) (n : ByteArray) : dropE D n = dropE L n := by
  unfold dropE
  rw [h.lk, any_same (h.perm hD)]
theorem GoodF.other {D L : Fm} (hG : GoodF D) (h : Rel D L) : GoodF L := by
  have hp := h.perm hG.nd
  refine ⟨h.nd, fun x hx => hG.ok x (hp.mem_iff.2 hx), fun x hx => ?_, hp.length_eq ▸ hG.le, fun s hs => ?_, by rw [← h.lk]; exact hG.d⟩
  · rcases hG.up x (hp.mem_iff.2 hx) with h1 | ⟨h1, h2⟩
    · exact .inl h1
    · exact .inr ⟨h1, by rw [← h.lk]; exact h2⟩
  · rw [← h.lk] at hs
    obtain ⟨xs, hx⟩ := hG.ch s hs
    exact ⟨xs, hx.same h.lk⟩
theorem names_same {D L : Fm} (hD : (D.map (·.1)).Nodup) (h : Rel D L) : namesF D = L.map (·.1) := by
  have hp : (D.map (·.1.data.toList)).Perm (L.map (·.1.data.toList)) := (h.perm hD).map _
  have hs : (L.map (·.1.data.toList)).Pairwise fun a b => leB a b = true := by
    have e : L.map (·.1.data.toList) = (L.map (·.1)).map (·.data.toList) := by simp [List.map_map]
    rw [e]
    exact List.pairwise_map.2 (h.srt.imp fun hlt => decide_eq_true (List.le_of_lt hlt))
  unfold namesF
  rw [mergeSort_of_perm hp, List.mergeSort_of_pairwise hs, List.map_map]
  refine List.map_congr_left fun x _ => ?_
  show (⟨x.1.data.toList.toArray⟩ : ByteArray) = x.1
  simp
theorem look_append (X Y : Fm) (s : ByteArray) : look (X ++ Y) s = (look X s).or (look Y s) := by
  induction X with
  | nil => simp [look]
  | cons x X ih =>
    rw [List.cons_append, look_cons, look_cons]
    by_cases h : s = x.1
    · rw [if_pos h, if_pos h]
      rfl
    · rw [if_neg h, if_neg h, ih]
theorem less_lt {x n : ByteArray} (h : Op.bytesLess x.toList n.toList = true) : x.data.toList < n.data.toList := by
  rw [bytesLess_eq, ByteArray.toList_eq, ByteArray.toList_eq] at h
  exact of_decide_eq_true h
theorem less_not {x n : ByteArray} (h : Op.bytesLess x.toList n.toList = false) (hne : x ≠ n) : n.data.toList < x.data.toList := by
  rw [bytesLess_eq, ByteArray.toList_eq, ByteArray.toList_eq] at h
  have h1 : ¬ x.data.toList < n.data.toList := of_decide_eq_false h
  have h2 : n.data.toList ≤ x.data.toList := List.not_lt.1 h1
  refine Decidable.byContradiction fun hc => hne (ByteArray.ext (Array.toList_inj.1 (List.le_antisymm (List.not_lt.1 hc) h2)))
theorem Rel.def {D L L' : Fm} {n : ByteArray} {a : Att} (hG : GoodF D) (h : Rel D L) (hR : RDef L n a L') : Rel (defN D n a) L' := by
  have hs := defE_same hG.nd h n a
  rcases hR with ⟨h1, rfl⟩ | ⟨h1, h2, rfl⟩ | ⟨h1, h2, k, hk, hlo, hhi, rfl⟩
  · unfold defN
    rw [hs, if_neg h1]
    exact h
  · unfold defN
    rw [hs, if_pos h1]
    refine ⟨fun s => by rw [look_put, look_put, h.lk], ?_⟩
    rw [putF_keys, if_pos h2]
    exact h.srt
  · unfold defN
    rw [hs, if_pos h1]
    have e : L = L.take k ++ L.drop k := (List.take_append_drop k L).symm
    have hl : ∀ s, look L s = (look (L.take k) s).or (look (L.drop k) s) := fun s => by rw [← look_append, ← e]
    have hn : look (L.take k) n = none := by
      have := hl n
      rw [h2] at this
      cases hh : look (L.take k) n with
      | none => rfl
      | some b => rw [hh] at this; cases this
    refine ⟨fun s => ?_, ?_⟩
    · rw [look_put, look_append, look_cons]
      by_cases hsn : s = n
      · rw [if_pos hsn, if_pos hsn, hsn, hn]
        rfl
      · rw [if_neg hsn, if_neg hsn, h.lk, hl]
    · have hsr := h.srt
      rw [e, List.map_append, List.pairwise_append] at hsr
      rw [List.map_append, List.map_cons, List.pairwise_append, List.pairwise_cons]
      have hlow : ∀ x ∈ (L.take k).map (·.1), x.data.toList < n.data.toList := fun x hx => by
        obtain ⟨y, hy, rfl⟩ := List.mem_map.1 hx
        obtain ⟨i, hi⟩ := List.getElem?_of_mem hy
        rw [List.getElem?_take] at hi
        split at hi
        · rename_i hlt
          exact less_lt (hlo i y hlt hi)
        · cases hi
      have hhigh : ∀ x ∈ (L.drop k).map (·.1), n.data.toList < x.data.toList := fun x hx => by
        obtain ⟨y, hy, rfl⟩ := List.mem_map.1 hx
        obtain ⟨z, hz⟩ : ∃ z, L[k]? = some z := by
          cases hh : L[k]? with
          | none =>
            rw [List.getElem?_eq_none_iff] at hh
            rw [List.drop_of_length_le hh] at hy
            cases hy
          | some z => exact ⟨z, rfl⟩
        have hzn : z.1 ≠ n := fun hc => by
          have := (look_key L n).2 (List.mem_map.2 ⟨z, List.mem_of_getElem? hz, hc⟩)
          rw [h2] at this
          cases this
        have hz1 := less_not (hhi z hz) hzn
        have hd : L.drop k = z :: L.drop (k + 1) := by
          obtain ⟨hk2, e2⟩ := List.getElem?_eq_some_iff.1 hz
          rw [List.drop_eq_getElem_cons hk2, e2]
        rw [hd] at hy
        rcases List.mem_cons.1 hy with rfl | hy
        · exact hz1
        · have h3 := hsr.2.1
          rw [hd, List.map_cons, List.pairwise_cons] at h3
          exact List.lt_trans hz1 (h3.1 _ (List.mem_map.2 ⟨y, hy, rfl⟩))
      refine ⟨hsr.1, ⟨hhigh, hsr.2.1⟩, fun x hx y hy => ?_⟩
      rcases List.mem_cons.1 hy with rfl | hy
      · exact hlow x hx
      · exact hsr.2.2 x hx y hy
theorem Rel.drop {D L : Fm} (hG : GoodF D) (h : Rel D L) (n : ByteArray) : Rel (dropN D n) (dropN L n) := by
  have hs := dropE_same hG.nd h n
  unfold dropN
  rw [hs]
  split
  · refine ⟨fun s => by rw [look_del hG.nd, look_del h.nd, h.lk], ?_⟩
    exact List.Pairwise.sublist ((delF_sub L n).map _) h.srt
  · exact h
theorem rel_new : Rel [(dflt, attZero)] [(dflt, attZero)] := ⟨fun _ => rfl, by simp⟩
/-- The reference's blocks. -/
abbrev refHeap (rb : Nat) (vN : Value) (ns : List ByteArray) (vA : Value) (av : List Att) : Heap := (rb, .cells 43 #[vN, vA]) :: (rowOf 9 1 vN ns.length (strs ns) ++ (rowOf 23 6 vA av.length (rows Att.cells av) ++ []))
/-- Both, side by side. -/
structure Both (W w : World) (fb mb rb : Nat) (vN vA : Value) (D L : Fm) : Prop where
  fa : FaAt W w fb mb D (refHeap rb vN (L.map (·.1)) vA (L.map (·.2)))
  okN : RowOk vN (L.map (·.1)).length
  okA : RowOk vA (L.map (·.2)).length
abbrev facHeap (fb mb : Nat) (D : Fm) : Heap := [(fb, .cells 60 #[.map (some mb)]), (mb, .map (facePairs D))]
theorem Both.rf {W w : World} {fb mb rb : Nat} {vN vA : Value} {D L : Fm} (h : Both W w fb mb rb vN vA D L) : RfAt W w rb vN (L.map (·.1)) vA (L.map (·.2)) (facHeap fb mb D) := by
  refine ⟨(Own.perm h.fa (R := facHeap fb mb D ++ refHeap rb vN (L.map (·.1)) vA (L.map (·.2))) (List.Perm.refl _)).perm ?_, h.okN, h.okA⟩
  refine List.perm_append_comm.trans (List.Perm.cons _ ?_)
  rw [List.append_nil]
  exact List.Perm.of_eq (List.append_assoc _ _ _)
theorem RfAt.both {W w : World} {fb mb rb : Nat} {vN vA : Value} {D L : Fm} (h : RfAt W w rb vN (L.map (·.1)) vA (L.map (·.2)) (facHeap fb mb D)) : Both W w fb mb rb vN vA D L := by
  refine ⟨?_, h.okN, h.okA⟩
  refine h.own.perm (R := facHeap fb mb D ++ refHeap rb vN (L.map (·.1)) vA (L.map (·.2))) ?_
  refine (List.perm_append_comm.trans (List.Perm.cons _ ?_)).symm
  rw [List.append_nil]
  exact List.Perm.of_eq (List.append_assoc _ _ _)
theorem Both.below {W w w' : World} {fb mb rb : Nat} {vN vA : Value} {D L : Fm} (h : Both W w fb mb rb vN vA D L) (hb : Below w.heap.size w w') : Both W w' fb mb rb vN vA D L := ⟨h.fa.below hb, h.okN, h.okA⟩
/-- Define on both. -/
theorem rdef_both {W w : World} {fb mb rb : Nat} {vN vA : Value} {D L : Fm} (h : Both W w fb mb rb vN vA D L) (hG : GoodF L) (n : ByteArray) (a : Att) (hs : n.size < 9223372036854775807) (hs2 : a.inh.size < 9223372036854775807) :
    Calls Try.prog 20 #[.pointer (some ⟨rb, 0, none⟩), .string n, a.val] w fun e w' => e = .returned (.int .i64 (defE L n a)) ∧ ∃ vN' vA' L', Both W w' fb mb rb vN' vA' D L' ∧ RDef L n a L' := by
  have h1 := h.rf
  obtain ⟨A, c, rfl, _⟩ := h1.slN.form
  obtain ⟨B, d, rfl, _⟩ := h1.slA.form
  rw [show (L.map (·.1)).length = L.length from List.length_map ..] at h1
  rw [show (L.map (·.2)).length = L.length from List.length_map ..] at h1
  refine (rdefine_any h1 hG n a hs hs2).mono ?_
  rintro e w' ⟨rfl, vN', vA', L', h2, h3⟩
  exact ⟨rfl, vN', vA', L', h2.both, h3⟩
theorem rdrop_both {W w : World} {fb mb rb : Nat} {vN vA : Value} {D L : Fm} (h : Both W w fb mb rb vN vA D L) (hG : GoodF L) (n : ByteArray) :
    Calls Try.prog 22 #[.pointer (some ⟨rb, 0, none⟩), .string n] w fun e w' => e = .returned (.int .i64 (dropE L n)) ∧ ∃ vN' vA', Both W w' fb mb rb vN' vA' D (dropN L n) := by
  have h1 := h.rf
  obtain ⟨A, c, rfl, _⟩ := h1.slN.form
  obtain ⟨B, d, rfl, _⟩ := h1.slA.form
  rw [show (L.map (·.1)).length = L.length from List.length_map ..] at h1
  rw [show (L.map (·.2)).length = L.length from List.length_map ..] at h1
  refine (rdrop_any h1 hG n).mono ?_
  rintro e w' ⟨rfl, vN', vA', h2⟩
  exact ⟨rfl, vN', vA', h2.both⟩
theorem fdef_both {W w : World} {fb mb rb : Nat} {vN vA : Value} {D L : Fm} (h : Both W w fb mb rb vN vA D L) (hC : Chained D) (n : ByteArray) (a : Att) (hs : n.size < 9223372036854775807) (hs2 : a.inh.size < 9223372036854775807) :
    Calls Try.prog 19 #[.pointer (some ⟨fb, 0, none⟩), .string n, a.val] w fun e w' => e = .returned (.int .i64 (defE D n a)) ∧ Both W w' fb mb rb vN vA (defN D n a) L := by
  refine (define_any h.fa hC n a hs hs2).mono ?_
  rintro e w' ⟨rfl, h2⟩
  exact ⟨rfl, h2, h.okN, h.okA⟩
theorem fdrop_both {W w : World} {fb mb rb : Nat} {vN vA : Value} {D L : Fm} (h : Both W w fb mb rb vN vA D L) (hd : (look D dflt).isSome = true) (n : ByteArray) :
    Calls Try.prog 21 #[.pointer (some ⟨fb, 0, none⟩), .string n] w fun e w' => e = .returned (.int .i64 (dropE D n)) ∧ Both W w' fb mb rb vN vA (dropN D n) L := by
  refine (drop_total h.fa hd n).mono ?_
  rintro e w' ⟨rfl, h2⟩
  exact ⟨rfl, h2, h.okN, h.okA⟩
/-- New on both. -/
theorem both_new {W w : World} {rb : Nat} {vN vA : Value} {fb mb : Nat} (h : RfAt W w rb vN [dflt] vA [attZero] (facHeap fb mb [(dflt, attZero)])) : Both W w fb mb rb vN vA [(dflt, attZero)] [(dflt, attZero)] := RfAt.both (L := [(dflt, attZero)]) h
end Go.Proofs.Ytmjogpacajbngaa
