/- The reference: Define. No condition but those written. -/
import Derived.Test.YtmjogpacajbngaaHd
import Derived.Deep.CutBlock
import Derived.Deep.DeepCutAuto
namespace Go.Proofs.Ytmjogpacajbngaa
open Go.RowKit

section
variable {W w w' : World} {rb : Nat} {vN vA : Value} {ns : List ByteArray} {av : List Att} {R : Heap}
theorem RfAt.box (h : RfAt W w rb vN ns vA av R) (t : TypeId) (cs : Array Value) : RfAt W (w.alloc (.cells cs t)) rb vN ns vA av ((w.heap.size, .cells t cs) :: R) := by
  refine ⟨(h.own.newCells t cs).perm ?_, h.okN, h.okA⟩
  refine (List.Perm.swap _ _ _).trans (List.Perm.cons _ ?_)
  rw [← List.append_assoc, ← List.append_assoc]
  exact List.perm_middle.symm
theorem RfAt.unbox {x : Nat × Ast} (h : RfAt W w rb vN ns vA av (x :: R)) : RfAt W w rb vN ns vA av R := by
  refine ⟨h.own.sub (List.Sublist.cons_cons _ ?_), h.okN, h.okA⟩
  exact (List.Sublist.refl _).append ((List.Sublist.refl _).append (List.sublist_cons_self _ _))
theorem RfAt.boxAt {g : Nat} {a : Att} (h : RfAt W w rb vN ns vA av ((g, .cells 23 a.cells.toArray) :: R)) : AttAt w g a := Blk.att (h.rest.blk (List.mem_cons_self ..))
theorem six_sl {g off m d i : Nat} {x : Att} (a : Att) (h : Sl w 23 6 (.slice (some ⟨g, off, none⟩) m d) m (rows Att.cells av)) (hx : av[i]? = some x) :
    Sl ((((((w.setCell ⟨g, off + i * 6, none⟩ (.int .i64 a.fo)).setCell ⟨g, off + i * 6 + 1, none⟩ (.int .i64 a.ba)).setCell ⟨g, off + i * 6 + 2, none⟩ (.int .i64 a.bo)).setCell ⟨g, off + i * 6 + 3, none⟩ (.int .i64 a.un)).setCell ⟨g, off + i * 6 + 4, none⟩ (.int .i64 a.iv)).setCell ⟨g, off + i * 6 + 5, none⟩ (.string a.inh)) 23 6 (.slice (some ⟨g, off, none⟩) m d) m (rows Att.cells (av.set i a)) := by
  have hlt := (List.getElem?_eq_some_iff.1 hx).1
  have hl : ∀ l : List Att, l.length = av.length → ∀ j, j < 6 → i * 6 + j < (rows Att.cells l).length := fun l hl j hj => by
    rw [rows_len att_len, hl]
    omega
  have hg : ∀ (l : List Att) (y : Att), l.length = av.length → (l.set i y)[i]? = some y := fun l y hl => by
    rw [List.getElem?_set_self (by omega)]
  have s0 := h.set (i * 6 + 0) (hl av rfl 0 (by omega)) (.int .i64 a.fo)
  rw [rows_set att_len ⟨a.fo, x.ba, x.bo, x.un, x.iv, x.inh⟩ 0 (.int .i64 a.fo) av i x hx (by omega) rfl] at s0
  have s1 := s0.set (i * 6 + 1) (hl _ (by simp) 1 (by omega)) (.int .i64 a.ba)
  rw [rows_set att_len ⟨a.fo, a.ba, x.bo, x.un, x.iv, x.inh⟩ 1 (.int .i64 a.ba) _ i ⟨a.fo, x.ba, x.bo, x.un, x.iv, x.inh⟩ (hg av ⟨a.fo, x.ba, x.bo, x.un, x.iv, x.inh⟩ rfl) (by omega) rfl, List.set_set] at s1
  have s2 := s1.set (i * 6 + 2) (hl _ (by simp) 2 (by omega)) (.int .i64 a.bo)
  rw [rows_set att_len ⟨a.fo, a.ba, a.bo, x.un, x.iv, x.inh⟩ 2 (.int .i64 a.bo) _ i ⟨a.fo, a.ba, x.bo, x.un, x.iv, x.inh⟩ (hg av ⟨a.fo, a.ba, x.bo, x.un, x.iv, x.inh⟩ rfl) (by omega) rfl, List.set_set] at s2
  have s3 := s2.set (i * 6 + 3) (hl _ (by simp) 3 (by omega)) (.int .i64 a.un)
  rw [rows_set att_len ⟨a.fo, a.ba, a.bo, a.un, x.iv, x.inh⟩ 3 (.int .i64 a.un) _ i ⟨a.fo, a.ba, a.bo, x.un, x.iv, x.inh⟩ (hg av ⟨a.fo, a.ba, a.bo, x.un, x.iv, x.inh⟩ rfl) (by omega) rfl, List.set_set] at s3
  have s4 := s3.set (i * 6 + 4) (hl _ (by simp) 4 (by omega)) (.int .i64 a.iv)
  rw [rows_set att_len ⟨a.fo, a.ba, a.bo, a.un, a.iv, x.inh⟩ 4 (.int .i64 a.iv) _ i ⟨a.fo, a.ba, a.bo, a.un, x.iv, x.inh⟩ (hg av ⟨a.fo, a.ba, a.bo, a.un, x.iv, x.inh⟩ rfl) (by omega) rfl, List.set_set] at s4
  have s5 := s4.set (i * 6 + 5) (hl _ (by simp) 5 (by omega)) (.string a.inh)
  rw [rows_set att_len ⟨a.fo, a.ba, a.bo, a.un, a.iv, a.inh⟩ 5 (.string a.inh) _ i ⟨a.fo, a.ba, a.bo, a.un, a.iv, x.inh⟩ (hg av ⟨a.fo, a.ba, a.bo, a.un, a.iv, x.inh⟩ rfl) (by omega) rfl, List.set_set] at s5
  simpa only [Nat.add_zero, Nat.add_assoc] using s5
theorem six_only_row (w : World) (g o : Nat) (a : Att) : Only (· = g) w ((((((w.setCell ⟨g, o, none⟩ (.int .i64 a.fo)).setCell ⟨g, o + 1, none⟩ (.int .i64 a.ba)).setCell ⟨g, o + 2, none⟩ (.int .i64 a.bo)).setCell ⟨g, o + 3, none⟩ (.int .i64 a.un)).setCell ⟨g, o + 4, none⟩ (.int .i64 a.iv)).setCell ⟨g, o + 5, none⟩ (.string a.inh)) :=
  ((((((Only.refl (· = g) w).setCell (p := ⟨g, o, none⟩) (.inl rfl) _).setCell (p := ⟨g, o + 1, none⟩) (.inl rfl) _).setCell (p := ⟨g, o + 2, none⟩) (.inl rfl) _).setCell (p := ⟨g, o + 3, none⟩) (.inl rfl) _).setCell (p := ⟨g, o + 4, none⟩) (.inl rfl) _).setCell (p := ⟨g, o + 5, none⟩) (.inl rfl) _
theorem RfAt.turnA {av' : List Att} (h : RfAt W w rb vN ns vA av R) (hl : av'.length = av.length) (ho : Only (fun b => vA.ownBlock = some b) w w') (hs : Sl w' 23 6 vA av.length (rows Att.cells av')) : RfAt W w' rb vN ns vA av' R := by
  have h1 := h.own.perm (R := rowOf 23 6 vA av.length (rows Att.cells av) ++ ((rb, Ast.cells 43 #[vN, vA]) :: (rowOf 9 1 vN ns.length (strs ns) ++ R))) (by
    refine List.Perm.trans ?_ List.perm_middle.symm
    refine List.Perm.cons _ ?_
    rw [← List.append_assoc, ← List.append_assoc]
    exact List.perm_append_comm.append_right _)
  have h2 := h1.turnRow ho hs
  refine ⟨?_, h.okN, by rw [hl]; exact h.okA⟩
  rw [hl]
  refine h2.perm ?_
  refine List.Perm.trans List.perm_middle ?_
  refine List.Perm.cons _ ?_
  rw [← List.append_assoc, ← List.append_assoc]
  exact List.perm_append_comm.append_right _
end
theorem Rd.back_if {w : World} {g off n c q k : Nat} {xs : List Value} (h : Rd w (.slice (some ⟨g, off, none⟩) n c) q n xs) (hk : k ≤ n) (hn : n ≤ c) (d : Nat) : Rd w (.slice (if c = k then some ⟨g, off, none⟩ else some ⟨g, off + k * q, none⟩) (n - k) d) q (n - k) (xs.drop (k * q)) := by
  by_cases e : c = k
  · rw [if_pos e]
    obtain ⟨_, _, _, hl, _⟩ := h
    exact ⟨_, _, rfl, by rw [List.length_drop, hl, Nat.sub_mul], fun hp => by omega⟩
  · rw [if_neg e]
    exact h.back hk d
theorem fin_names {L : Fm} {n : ByteArray} {a : Att} {k n0 : Nat} (hl : L.length = n0) (hk : k ≤ n0) {w : World} {v : Value} (h : Sl w 9 1 v (k + 1 + (n0 - k)) (strs ((L.map (·.1)).take k) ++ [.string n] ++ strs ((L.map (·.1)).drop k))) : Sl w 9 1 v ((L.take k ++ (n, a) :: L.drop k).map (·.1)).length (strs ((L.take k ++ (n, a) :: L.drop k).map (·.1))) := by
  have e1 : ((L.take k ++ (n, a) :: L.drop k).map (·.1)).length = k + 1 + (n0 - k) := by
    simp only [List.length_map, List.length_append, List.length_cons, List.length_take, List.length_drop, hl]
    omega
  have e2 : strs ((L.take k ++ (n, a) :: L.drop k).map (·.1)) = strs ((L.map (·.1)).take k) ++ [.string n] ++ strs ((L.map (·.1)).drop k) := by
    simp [strs, List.map_take, List.map_drop]
  rw [e1, e2]
  exact h
theorem fin_atts {L : Fm} {n : ByteArray} {a : Att} {k n0 : Nat} (hl : L.length = n0) (hk : k ≤ n0) {w : World} {v : Value} (h : Sl w 23 6 v (k + 1 + (n0 - k)) (rows Att.cells ((L.map (·.2)).take k) ++ Att.cells a ++ rows Att.cells ((L.map (·.2)).drop k))) : Sl w 23 6 v ((L.take k ++ (n, a) :: L.drop k).map (·.2)).length (rows Att.cells ((L.take k ++ (n, a) :: L.drop k).map (·.2))) := by
  have e1 : ((L.take k ++ (n, a) :: L.drop k).map (·.2)).length = k + 1 + (n0 - k) := by
    simp only [List.length_map, List.length_append, List.length_cons, List.length_take, List.length_drop, hl]
    omega
  have e2 : rows Att.cells ((L.take k ++ (n, a) :: L.drop k).map (·.2)) = rows Att.cells ((L.map (·.2)).take k) ++ Att.cells a ++ rows Att.cells ((L.map (·.2)).drop k) := by
    simp [rows, List.map_take, List.map_drop, List.flatMap_append]
  rw [e1, e2]
  exact h
theorem info_att : (Try.prog.info? 23).map (fun i => (i.zero, i.size, i.bytes)) = some (some (.agg #[.int .i64 0, .int .i64 0, .int .i64 0, .int .i64 0, .int .i64 0, .string ⟨#[]⟩]), 6, 56) := by kernel_rfl
theorem att_one (l : List Att) : ∀ u ∈ rows Att.cells l, u.oneCell' = true := rows_cells (enc := Att.cells) fun x _ u hu => by
  simp [Att.cells] at hu
  rcases hu with rfl | rfl | rfl | rfl | rfl | rfl <;> rfl
theorem att_one1 (a : Att) : ∀ u ∈ Att.cells a, u.oneCell' = true := fun u hu => by
  simp [Att.cells] at hu
  rcases hu with rfl | rfl | rfl | rfl | rfl | rfl <;> rfl
/-- What Define leaves. -/
def RDef (L : Fm) (n : ByteArray) (a : Att) (L' : Fm) : Prop :=
  (defE L n a ≠ 0 ∧ L' = L) ∨ (defE L n a = 0 ∧ (look L n).isSome = true ∧ L' = putF L n a) ∨
  (defE L n a = 0 ∧ look L n = none ∧ ∃ k, k ≤ L.length ∧ (∀ (i : Nat) (x : ByteArray × Att), i < k → L[i]? = some x → Op.bytesLess x.1.toList n.toList = true) ∧ (∀ x, L[k]? = some x → Op.bytesLess x.1.toList n.toList = false) ∧ L' = L.take k ++ (n, a) :: L.drop k)
theorem putF_at {L : Fm} {n : ByteArray} {a b : Att} : ∀ {i : Nat}, plc (L.map (·.1)) n = some i → L[i]? = some (n, b) → (putF L n a).map (·.1) = L.map (·.1) ∧ (putF L n a).map (·.2) = (L.map (·.2)).set i a := by
  induction L with
  | nil => intro i _ h; cases h
  | cons x L ih =>
    intro i hp hx
    unfold putF
    by_cases e : n = x.1
    · rw [if_pos ((MapKept.bytes_beq _ _).2 e)]
      have hi : i = 0 := by
        unfold plc at hp
        rw [List.map_cons, List.findIdx?_cons, ← e, beq_ba] at hp
        simpa using hp.symm
      subst hi
      exact ⟨by rw [List.map_cons, List.map_cons, e], rfl⟩
    · rw [if_neg (by rw [bne_ba e]; decide)]
      have hp2 : plc ((x :: L).map (·.1)) n = (plc (L.map (·.1)) n).map (· + 1) := by
        unfold plc
        rw [List.map_cons, List.findIdx?_cons, bne_ba (fun h => e h.symm)]
        rfl
      rw [hp2] at hp
      obtain ⟨j, hj, rfl⟩ := Option.map_eq_some_iff.1 hp
      obtain ⟨h1, h2⟩ := ih hj (by simpa using hx)
      exact ⟨by rw [List.map_cons, List.map_cons, h1], by rw [List.map_cons, List.map_cons, h2]; rfl⟩
set_option maxRecDepth 100000 in
set_option maxRecDepth 100000 in
set_option maxHeartbeats 16000000 in
theorem rdefine_any {W w : World} {rb n0 c d : Nat} {A B : Option Addr} {L : Fm} {R : Heap} (h : RfAt W w rb (.slice A n0 c) (L.map (·.1)) (.slice B n0 d) (L.map (·.2)) R) (hG : GoodF L) (n : ByteArray) (a : Att) (hs : n.size < 9223372036854775807) (hs2 : a.inh.size < 9223372036854775807) :
    Calls Try.prog 20 #[.pointer (some ⟨rb, 0, none⟩), .string n, a.val] w fun e w' => e = .returned (.int .i64 (defE L n a)) ∧ ∃ vN' vA' L', RfAt W w' rb vN' (L'.map (·.1)) vA' (L'.map (·.2)) R ∧ RDef L n a L' := by
  have hlen : L.length = n0 := by
    have := h.slN.1
    obtain ⟨A', c', e, _⟩ := h.slN.form
    injection e with _ e2 _
    rw [e2, List.length_map]
  have hn2 : n0 ≤ 256 := hlen ▸ hG.le
  have H1 := hide (h.box 23 a.cells.toArray)
  have HL := hide hlen
  have HG := hide hG
  have HPL := hide (fun (w' : World) (R' : Heap) (h' : RfAt W w' rb (.slice A n0 c) (L.map (·.1)) (.slice B n0 d) (L.map (·.2)) R') (y : ByteArray) => place_any h'.blk (by have := h'.slN.rd; rwa [List.length_map, hlen] at this) y (by omega))
  have HNM := hide (fun w' => named_any n w' hs)
  have HWI := hide (fun w' => rwithin_any a w')
  have HNI := hide (fun w' => named_any a.inh w' hs2)
  clear h hlen hG
  go_enter Try.func20, Try.ntmps20
  go_wp2_with fail
  refine Calls.mono (HPL.out _ _ H1.out n) ?_
  rintro r w2 ⟨rfl, rfl⟩
  go_wp2_with fail
  refine Calls.mono (HNM.out _) ?_
  rintro r w3 ⟨rfl, rfl⟩
  cases hv : validF n with
  | false =>
    have HE := hide (show defE L n a = 17 by
      unfold defE defErr
      rw [if_pos hv])
    clear hv
    go_wp2
    go_ret
    exact ⟨by rw [HE.out]; rfl, _, _, L, H1.out.unbox, .inl ⟨by rw [HE.out]; decide, rfl⟩⟩
  | true =>
    have HV := hide hv
    clear hv
    obtain ⟨a0, a1, a2, a3, a4, a5⟩ := H1.out.boxAt
    go_wp2_with fail
    refine Calls.mono (HWI.out _) ?_
    rintro r w4 ⟨rfl, hb4⟩
    have H4 := hide (H1.out.below hb4)
    clear hb4 a0 a1 a2 a3 a4 a5
    cases hw : withinB a with
    | false =>
      have HE := hide (show defE L n a = 3 by
        unfold defE defErr
        rw [if_neg (by rw [HV.out]; decide), if_pos hw])
      clear hw
      go_wp2
      go_ret
      exact ⟨by rw [HE.out]; rfl, _, _, L, H4.out.unbox, .inl ⟨by rw [HE.out]; decide, rfl⟩⟩
    | true =>
      have HW := hide hw
      clear hw
      obtain ⟨a0, a1, a2, a3, a4, a5⟩ := H4.out.boxAt
      by_cases hi : a.inh = ⟨#[]⟩
      · have z1 := empty_is hi
        have z2 : (a.inh.toList == []) = true := by
          cases hl : a.inh.toList with
          | nil => rfl
          | cons _ _ => rw [hl] at z1; cases z1
        have HE := hide (show defE L n a = if look L n = none ∧ 256 ≤ L.length then 7 else 0 by
          unfold defE defErr
          rw [if_neg (by rw [HV.out]; decide), if_neg (by rw [HW.out]; decide), if_pos hi])
        clear hi
        rcases plc_look L n with ⟨i, b, h1, h2, h3⟩ | ⟨h1, h2⟩
        · rw [plcZ_some h1]
          have hil : i < n0 := by
            have := (List.getElem?_eq_some_iff.1 h2).1
            rw [HL.out] at this
            exact this
          have hx2 : (L.map (·.2))[i]? = some b := by rw [List.getElem?_map, h2]; rfl
          obtain ⟨g, off, rfl, p0, p1, p2, p3, p4, p5⟩ := rd_att (by have := H4.out.slA.rd; rwa [List.length_map, HL.out] at this) hx2
          have fz : ∀ j, w4.frozen? ⟨g, j, none⟩ = false := by
            obtain ⟨g', off', c', e, _, _, _, hf, _⟩ := H4.out.slA.at_ (by rw [List.length_map, HL.out]; omega)
            injection e with e
            injection e with e
            injection e with e
            subst e
            exact hf
          have f0 := fz (off + i * 6)
          have f1 := fz (off + i * 6 + 1)
          have f2 := fz (off + i * 6 + 2)
          have f3 := fz (off + i * 6 + 3)
          have f4 := fz (off + i * 6 + 4)
          have f5 := fz (off + i * 6 + 5)
          have c1 : w4.cell? ⟨rb, 1, none⟩ = some (.slice (some ⟨g, off, none⟩) n0 d) := by rw [H4.out.blk.cell]; rfl
          have q1 : decide (i < n0) = true := by simpa using hil
          have q2 : decide ((i : Int) < (n0 : Int)) = true := decide_eq_true (by omega)
          have q3 : decide ((0 : Int) ≤ (i : Int)) = true := decide_eq_true (by omega)
          have HE0 := hide (show defE L n a = 0 by rw [HE.out, if_neg (fun hc => by rw [h3] at hc; cases hc.1)])
          have HP := hide (putF_at (a := a) h1 h2)
          have HS := hide (show (look L n).isSome = true by rw [h3]; rfl)
          have H5 := hide H4.out.unbox
          have H6 := hide (H5.out.turnA (av' := (L.map (·.2)).set i a) (by simp) ((six_only_row _ g (off + i * 6) a).mono fun i _ hi => by rw [hi]; rfl) (by
            have h0 := H5.out.slA
            rw [List.length_map, HL.out] at h0 ⊢
            exact six_sl a h0 hx2))
          have H7 := hide (H6.out.below (Below.refl _ _).drew)
          clear h1 h2 h3 hx2 fz
          go_wp2_with fail
          go_region
          all_goals
            go_wp2
            go_ret
            refine ⟨by rw [HE0.out]; rfl, .slice A n0 c, .slice (some ⟨g, off, none⟩) n0 d, putF L n a, ?_, .inr (.inl ⟨HE0.out, HS.out, rfl⟩)⟩
            rw [HP.out.1, HP.out.2]
            exact H7.out
        · rw [plcZ_none h1]
          have c0 : w4.cell? ⟨rb, 0, none⟩ = some (.slice A n0 c) := by rw [H4.out.blk.cell]; rfl
          by_cases hfull : 256 ≤ n0
          · have q1 : decide (256 ≤ n0) = true := by simpa using hfull
            have q2 : decide ((256 : Int) ≤ (n0 : Int)) = true := decide_eq_true (by omega)
            have HE0 := hide (show defE L n a = 7 by rw [HE.out, if_pos ⟨h2, by rw [HL.out]; exact hfull⟩])
            clear h1 h2
            go_wp2
            go_ret
            exact ⟨by rw [HE0.out]; rfl, _, _, L, H4.out.unbox, .inl ⟨by rw [HE0.out]; decide, rfl⟩⟩
          · have q1 : decide (256 ≤ n0) = false := by simpa using hfull
            have q2 : decide ((256 : Int) ≤ (n0 : Int)) = false := decide_eq_false (by omega)
            have HE0 := hide (show defE L n a = 0 by rw [HE.out, if_neg (fun hc => hfull (by rw [HL.out] at hc; exact hc.2))])
            have HNO := hide h2
            clear h1 h2
            have HST := hide (show ∀ (j : Nat) (y : ByteArray × Att), L[j]? = some y → ∃ g off, A = some ⟨g, off, none⟩ ∧ w4.cell? ⟨g, off + j, none⟩ = some (.string y.1) from fun j y hy => by
              have := H4.out.slN.rd
              rw [List.length_map, HL.out] at this
              exact rd_str this (by rw [List.getElem?_map, hy]; rfl))
            go_upto_block 1 with fail
            go_cut [8] (fun t wx => ∃ k : Nat, t = .int .i64 (k : Int) ∧ k ≤ n0 ∧ (∀ (i : Nat) (x : ByteArray × Att), i < k → L[i]? = some x → Op.bytesLess x.1.toList n.toList = true) ∧ (∀ x, L[k]? = some x → Op.bytesLess x.1.toList n.toList = false) ∧ wx = w4)
            case first =>
              go_wp2_with fail
              go_loopw [8] (fun t wr => ∃ k : Nat, t = .int .i64 (k : Int) ∧ k ≤ n0 ∧ (∀ (i : Nat) (x : ByteArray × Att), i < k → L[i]? = some x → Op.bytesLess x.1.toList n.toList = true) ∧ wr = w4) (fun t _ => n0 - (intOf t).toNat)
              case atStart => exact ⟨0, rfl, Nat.zero_le _, fun i x hi => by omega, rfl⟩
              case round =>
                obtain ⟨k, rfl, hk, hall, rfl⟩ := hrel
                have HA := hide hall
                clear hall
                by_cases hlt : k < n0
                · have y1 : decide (k < n0) = true := by simpa using hlt
                  have y2 : decide ((k : Int) < (n0 : Int)) = true := decide_eq_true (by omega)
                  obtain ⟨x, hx⟩ : ∃ x, L[k]? = some x := ⟨_, List.getElem?_eq_getElem (by rw [HL.out]; exact hlt)⟩
                  obtain ⟨g, off, rfl, hcell⟩ := HST.out k x hx
                  have HLT := hide hlt
                  cases hb : Op.bytesLess x.1.toList n.toList with
                  | true =>
                    have HN := hide (show ∀ (i : Nat) (x : ByteArray × Att), i < k + 1 → L[i]? = some x → Op.bytesLess x.1.toList n.toList = true from fun i y hi hy => by
                      by_cases e : i = k
                      · rw [e, hx, Option.some.injEq] at hy
                        rw [← hy]
                        exact hb
                      · exact HA.out i y (by omega) hy)
                    clear hx
                    go_wp2
                    go_roundw
                    case rel => exact ⟨k + 1, by go_num, HLT.out, HN.out, by trivial⟩
                    case measure => have := HLT.out; simp [intOf]; omega
                  | false =>
                    have HN := hide (show ∀ y, L[k]? = some y → Op.bytesLess y.1.toList n.toList = false from fun y hy => by
                      rw [hx, Option.some.injEq] at hy
                      rw [← hy]
                      exact hb)
                    clear hx
                    go_wp2
                    go_meet
                    exact ⟨k, rfl, Nat.le_of_lt HLT.out, HA.out, HN.out, rfl⟩
                · have y1 : decide (k < n0) = false := by simpa using hlt
                  have y2 : decide ((k : Int) < (n0 : Int)) = false := decide_eq_false (by omega)
                  have HN := hide (show ∀ y, L[k]? = some y → Op.bytesLess y.1.toList n.toList = false from fun y hy => by
                    have := (List.getElem?_eq_some_iff.1 hy).1
                    rw [HL.out] at this
                    omega)
                  have HK := hide hk
                  go_wp2
                  go_meet
                  exact ⟨k, rfl, HK.out, HA.out, HN.out, rfl⟩
            case rest =>
              obtain ⟨k, rfl, hk, hlo, hhi, rfl⟩ := hcut
              have HK := hide (And.intro hk (And.intro hlo hhi))
              clear hlo hhi
              have hn1 : 0 < n0 := by
                rw [← HL.out]
                cases hD : L with
                | nil => have := HG.out.d; rw [hD] at this; cases this
                | cons _ _ => exact Nat.succ_pos _
              obtain ⟨y0, hy0⟩ : ∃ y, L[0]? = some y := ⟨_, List.getElem?_eq_getElem (by rw [HL.out]; exact hn1)⟩
              obtain ⟨g, off, rfl, _⟩ := HST.out 0 y0 hy0
              obtain ⟨g2, off2, rfl, _⟩ := rd_att (by have := H4.out.slA.rd; rwa [List.length_map, HL.out] at this) (i := 0) (a := y0.2) (by rw [List.getElem?_map, hy0]; rfl)
              have hnc : n0 ≤ c := by
                obtain ⟨_, _, e, hh, _⟩ := H4.out.slN.form
                injection e with _ e2 e3
                rw [List.length_map, HL.out] at hh
                omega
              have hnd : n0 ≤ d := by
                obtain ⟨_, _, e, hh, _⟩ := H4.out.slA.form
                injection e with _ e2 e3
                rw [List.length_map, HL.out] at hh
                omega
              have kb1 : (0 : Int) ≤ (k : Int) := by omega
              have kb2 : (k : Int) ≤ (c : Int) := by omega
              have kb3 : (k : Int) ≤ (n0 : Int) := by omega
              have kb4 : (n0 : Int) ≤ (c : Int) := by omega
              have kb5 : (k : Int) ≤ (d : Int) := by omega
              have kb6 : (n0 : Int) ≤ (d : Int) := by omega
              clear hy0 a0 a1 a2 a3 a4 a5 c0
              have HFIN := hide (fun (w' : World) (v' : Value) => fin_names (w := w') (v := v') (n := n) (a := a) (L := L) (k := k) (n0 := n0) HL.out hk)
              go_upto_region 20 with fail
              go_cut [] (fun wx => ∃ vN, RfAt W wx rb vN ((L.take k ++ (n, a) :: L.drop k).map (·.1)) (.slice (some ⟨g2, off2, none⟩) n0 d) (L.map (·.2)) ((w.heap.size, .cells 23 a.cells.toArray) :: R))
              case first =>
                have H5 := hide (H4.out.below (Below.refl _ _).drew)
                refine wp_region_d (S := fun w' => w'.cell? ⟨rb, 0, none⟩ = some (.slice (some ⟨g, off, none⟩) n0 c)) (D := [21]) (by kernel_rfl) ?_
                change wpAnyD _ _ _ _ _ _ _ _ _ wc.drew
                generalize wc.drew = w0 at H5 ⊢
                have b0 := hide (Below.refl w0.heap.size w0)
                have HQ := hide (show ∀ w', Below w0.heap.size w0 w' → w'.cell? ⟨rb, 0, none⟩ = some (.slice (some ⟨g, off, none⟩) n0 c) from fun w' hb => by rw [(H5.out.below hb).blk.cell]; rfl)
                have HFT := hide (show ∀ w', Below w0.heap.size w0 w' → Rd w' (.slice (some ⟨g, off, none⟩) k c) 1 k (strs ((L.map (·.1)).take k)) from fun w' hb => by
                  have h1 := (H5.out.slN.rd).belowF hb
                  rw [List.length_map, HL.out] at h1
                  rw [← strs_take]
                  exact h1.front hk c)
                have HBK := hide (show ∀ w', Below w0.heap.size w0 w' → Rd w' (.slice (if c = k then some ⟨g, off, none⟩ else some ⟨g, off + k, none⟩) (n0 - k) (c - k)) 1 (n0 - k) (strs ((L.map (·.1)).drop k)) from fun w' hb => by
                  have h1 := (H5.out.slN.rd).belowF hb
                  rw [List.length_map, HL.out] at h1
                  rw [← strs_drop]
                  have h2 := h1.back_if hk hnc (c - k)
                  rw [Nat.mul_one] at h2 ⊢
                  exact h2)
                obtain ⟨i0, hi, hz0, hz1, hz2⟩ := info_parts info_str
                have hS := HQ.out _ b0.out
                refine wpAnyD_takeW (i := 0) (oi := { dst := some 89, op := Op.move (Operand.tmp 0), type := 32, pos := "ref.go:106", after := #[], guard := none }) (v := ?_) rfl (by kernel_rfl) (by kernel_rfl) (by kernel_rfl) (fun _ _ _ h => h) (Or.inl ⟨by rfl, ?_⟩) ?_
                rotate_left
                · intro w hSw
                  clear hSw
                  go_simp
                  all_goals with_reducible rfl
                simp only [Act.put, List.setIfInBounds_toArray, List.set_cons_zero, List.set_cons_succ]
                refine wpAnyD_takeW (i := 2) (oi := { dst := some 91, op := Op.move (Operand.tmp 0), type := 32, pos := "ref.go:106", after := #[], guard := none }) (v := ?_) rfl (by kernel_rfl) (by kernel_rfl) (by kernel_rfl) (fun _ _ _ h => h) (Or.inl ⟨by rfl, ?_⟩) ?_
                rotate_left
                · intro w hSw
                  clear hSw
                  go_simp
                  all_goals with_reducible rfl
                simp only [Act.put, List.setIfInBounds_toArray, List.set_cons_zero, List.set_cons_succ]
                refine wpAnyD_takeW (i := 3) (oi := { dst := some 92, op := Op.nilCheck (Operand.tmp 91), type := 0, pos := "ref.go:106", after := #[{ on := 2, ground := Ground.data }], guard := none }) (v := ?_) rfl (by kernel_rfl) (by kernel_rfl) (by kernel_rfl) (fun _ _ _ h => h) (Or.inl ⟨by rfl, ?_⟩) ?_
                rotate_left
                · intro w hSw
                  clear hSw
                  go_simp
                  all_goals with_reducible rfl
                simp only [Act.put, List.setIfInBounds_toArray, List.set_cons_zero, List.set_cons_succ]
                refine wpAnyD_takeW (i := 4) (oi := { dst := some 93, op := Op.fieldAddr 43 (Operand.tmp 92) 0, type := 0, pos := "ref.go:106", after := #[{ on := 3, ground := Ground.data }], guard := none }) (v := ?_) rfl (by kernel_rfl) (by kernel_rfl) (by kernel_rfl) (fun _ _ _ h => h) (Or.inl ⟨by rfl, ?_⟩) ?_
                rotate_left
                · intro w hSw
                  clear hSw
                  go_simp
                  all_goals with_reducible rfl
                simp only [Act.put, List.setIfInBounds_toArray, List.set_cons_zero, List.set_cons_succ]
                refine wpAnyD_take (i := 5) (oi := { dst := some 94, op := Op.load 39 (Operand.tmp 93), type := 39, pos := "ref.go:106", after := #[{ on := 4, ground := Ground.data }], guard := none }) (v := ?_) rfl (by kernel_rfl) (by kernel_rfl) (by kernel_rfl) (by kernel_rfl) (by kernel_rfl) (fun _ _ _ h => h) (Or.inl ⟨by rfl, ?_⟩) hS ?_
                rotate_left
                · intro w hSw
                  (try dsimp only at hSw)
                  (try go_split_ands)
                  go_simp
                  all_goals with_reducible rfl
                simp only [Act.put, List.setIfInBounds_toArray, List.set_cons_zero, List.set_cons_succ]
                refine wpAnyD_takeW (i := 6) (oi := { dst := some 95, op := Op.move (Operand.tmp 8), type := 3, pos := "ref.go:106", after := #[], guard := none }) (v := ?_) rfl (by kernel_rfl) (by kernel_rfl) (by kernel_rfl) (fun _ _ _ h => h) (Or.inl ⟨by rfl, ?_⟩) ?_
                rotate_left
                · intro w hSw
                  clear hSw
                  go_simp
                  all_goals with_reducible rfl
                simp only [Act.put, List.setIfInBounds_toArray, List.set_cons_zero, List.set_cons_succ]
                refine wpAnyD_takeW (i := 7) (oi := { dst := some 96, op := Op.slice 39 (Operand.tmp 94) none (some (Operand.tmp 95)) none, type := 39, pos := "ref.go:106", after := #[{ on := 5, ground := Ground.data }, { on := 6, ground := Ground.data }], guard := none }) (v := ?_) rfl (by kernel_rfl) (by kernel_rfl) (by kernel_rfl) (fun _ _ _ h => h) (Or.inl ⟨by rfl, ?_⟩) ?_
                rotate_left
                · intro w hSw
                  clear hSw
                  go_simp
                  all_goals with_reducible rfl
                simp only [Act.put, List.setIfInBounds_toArray, List.set_cons_zero, List.set_cons_succ]
                refine wpAnyD_takeW (i := 9) (oi := { dst := some 98, op := Op.move (Operand.tmp 1), type := 9, pos := "ref.go:106", after := #[], guard := none }) (v := ?_) rfl (by kernel_rfl) (by kernel_rfl) (by kernel_rfl) (fun _ _ _ h => h) (Or.inl ⟨by rfl, ?_⟩) ?_
                rotate_left
                · intro w hSw
                  clear hSw
                  go_simp
                  all_goals with_reducible rfl
                simp only [Act.put, List.setIfInBounds_toArray, List.set_cons_zero, List.set_cons_succ]
                refine wpAnyD_takeW (i := 12) (oi := { dst := some 101, op := Op.move (Operand.tmp 0), type := 32, pos := "ref.go:106", after := #[], guard := none }) (v := ?_) rfl (by kernel_rfl) (by kernel_rfl) (by kernel_rfl) (fun _ _ _ h => h) (Or.inl ⟨by rfl, ?_⟩) ?_
                rotate_left
                · intro w hSw
                  clear hSw
                  go_simp
                  all_goals with_reducible rfl
                simp only [Act.put, List.setIfInBounds_toArray, List.set_cons_zero, List.set_cons_succ]
                refine wpAnyD_takeW (i := 13) (oi := { dst := some 102, op := Op.nilCheck (Operand.tmp 101), type := 0, pos := "ref.go:106", after := #[{ on := 12, ground := Ground.data }], guard := none }) (v := ?_) rfl (by kernel_rfl) (by kernel_rfl) (by kernel_rfl) (fun _ _ _ h => h) (Or.inl ⟨by rfl, ?_⟩) ?_
                rotate_left
                · intro w hSw
                  clear hSw
                  go_simp
                  all_goals with_reducible rfl
                simp only [Act.put, List.setIfInBounds_toArray, List.set_cons_zero, List.set_cons_succ]
                refine wpAnyD_takeW (i := 14) (oi := { dst := some 103, op := Op.fieldAddr 43 (Operand.tmp 102) 0, type := 0, pos := "ref.go:106", after := #[{ on := 13, ground := Ground.data }], guard := none }) (v := ?_) rfl (by kernel_rfl) (by kernel_rfl) (by kernel_rfl) (fun _ _ _ h => h) (Or.inl ⟨by rfl, ?_⟩) ?_
                rotate_left
                · intro w hSw
                  clear hSw
                  go_simp
                  all_goals with_reducible rfl
                simp only [Act.put, List.setIfInBounds_toArray, List.set_cons_zero, List.set_cons_succ]
                refine wpAnyD_take (i := 15) (oi := { dst := some 104, op := Op.load 39 (Operand.tmp 103), type := 39, pos := "ref.go:106", after := #[{ on := 14, ground := Ground.data }], guard := none }) (v := ?_) rfl (by kernel_rfl) (by kernel_rfl) (by kernel_rfl) (by kernel_rfl) (by kernel_rfl) (fun _ _ _ h => h) (Or.inl ⟨by rfl, ?_⟩) hS ?_
                rotate_left
                · intro w hSw
                  (try dsimp only at hSw)
                  (try go_split_ands)
                  go_simp
                  all_goals with_reducible rfl
                simp only [Act.put, List.setIfInBounds_toArray, List.set_cons_zero, List.set_cons_succ]
                refine wpAnyD_takeW (i := 16) (oi := { dst := some 105, op := Op.move (Operand.tmp 8), type := 3, pos := "ref.go:106", after := #[], guard := none }) (v := ?_) rfl (by kernel_rfl) (by kernel_rfl) (by kernel_rfl) (fun _ _ _ h => h) (Or.inl ⟨by rfl, ?_⟩) ?_
                rotate_left
                · intro w hSw
                  clear hSw
                  go_simp
                  all_goals with_reducible rfl
                simp only [Act.put, List.setIfInBounds_toArray, List.set_cons_zero, List.set_cons_succ]
                refine wpAnyD_takeW (i := 17) (oi := { dst := some 106, op := Op.slice 39 (Operand.tmp 104) (some (Operand.tmp 105)) none none, type := 39, pos := "ref.go:106", after := #[{ on := 15, ground := Ground.data }, { on := 16, ground := Ground.data }], guard := none }) (v := ?_) rfl (by kernel_rfl) (by kernel_rfl) (by kernel_rfl) (fun _ _ _ h => h) (Or.inl ⟨by rfl, ?_⟩) ?_
                rotate_left
                · intro w hSw
                  clear hSw
                  go_simp
                  all_goals with_reducible rfl
                simp only [Act.put, List.setIfInBounds_toArray, List.set_cons_zero, List.set_cons_succ]
                clear hS
                refine wpAnyD_two (i := 1) (j := 10) (o := { dst := some 90, op := Op.buildSlice 39 0 #[], type := 39, pos := "ref.go:106", after := #[], guard := none }) (p := { dst := some 99, op := Op.buildSlice 39 1 #[(0, Operand.tmp 98)], type := 39, pos := "ref.go:106", after := #[{ on := 9, ground := Ground.data }], guard := none }) (by kernel_rfl) rfl rfl (fun K hK => ?_) (fun K hK => ?_)
                · have b1 := hide (b0.out.alloc b0.out.size (.cells #[] 9))
                  have E1 := hide (show Sl (w0.alloc (.cells #[] 9)) 9 1 (.slice (some ⟨w0.heap.size, 0, none⟩) 0 0) 0 [] by simpa only [World.size_alloc] using (show Sl (w0.alloc (.cells #[] 9)) 9 1 (.slice (some ⟨w0.heap.size, 0, none⟩) 0 0) 0 [] from Sl.new w0 9 1 #[] 0 0 (Nat.le_refl _) (Nat.zero_le _) (Nat.le_refl _)))
                  have V1 := hide (show ∀ g, (Value.slice (some ⟨w0.heap.size, 0, none⟩) 0 0).ownBlock = some g → w0.heap.size ≤ g from fun g hg => by
                    cases hg
                    have := b0.out.size
                    simpa only [World.size_alloc] using this)
                  go_simp
                  refine hK _ _ (fun _ _ => HQ.out _ b1.out) ?_
                  clear hK K
                  try simp only [Act.put, List.setIfInBounds_toArray, List.set_cons_zero, List.set_cons_succ]
                  refine wpAnyD_two (i := 8) (j := 10) (o := { dst := some 97, op := Op.call { callee := Callee.builtin Builtin.append, args := #[Operand.tmp 90, Operand.tmp 96], argTypes := #[39, 39] }, type := 39, pos := "ref.go:106", after := #[{ on := 1, ground := Ground.data }, { on := 7, ground := Ground.data }], guard := none }) (p := { dst := some 99, op := Op.buildSlice 39 1 #[(0, Operand.tmp 98)], type := 39, pos := "ref.go:106", after := #[{ on := 9, ground := Ground.data }], guard := none }) (by kernel_rfl) rfl rfl (fun K hK => ?_) (fun K hK => ?_)
                  · refine step_append_w (by rfl) (.tmp 90) (.tmp 96) 39 rfl 9 i0 _ 1 16 Try.underlying39 hi hz0 hz1 hz2 rfl (.slice (some ⟨w0.heap.size, 0, none⟩) 0 0) (0) ([]) rfl E1.out _ rfl k (strs ((L.map (fun x : ByteArray × Att => x.1)).take k)) (HFT.out _ b1.out) (strs_one _) (by unfold maxLen; omega) (by omega) ?_
                    intro v2 w2 hs2 ho2 hv2
                    rw [Nat.zero_add, List.nil_append] at hs2
                    have b2 := hide (b1.out.trans (ho2.below b1.out.size fun i hi => V1.out i hi))
                    have E2 := hide hs2
                    have V2 := hide (show ∀ g, v2.ownBlock = some g → w0.heap.size ≤ g from fun g hg => by
                      rcases hv2 with e | e
                      · exact V1.out g (by rw [← e]; exact hg)
                      · rw [e] at hg
                        cases hg
                        exact b1.out.size)
                    clear hs2 ho2 hv2
                    refine hK _ _ (fun _ _ => HQ.out _ b2.out) ?_
                    clear hK K
                    try simp only [Act.put, List.setIfInBounds_toArray, List.set_cons_zero, List.set_cons_succ]
                    refine wpAnyD_one (i := 10) (o := { dst := some 99, op := Op.buildSlice 39 1 #[(0, Operand.tmp 98)], type := 39, pos := "ref.go:106", after := #[{ on := 9, ground := Ground.data }], guard := none }) (by kernel_rfl) rfl (fun K hK => ?_)
                    have b3 := hide (b2.out.alloc b2.out.size (.cells #[.string n] 9))
                    have RD3 := hide (show Rd (w2.alloc (.cells #[.string n] 9)) (.slice (some ⟨w2.heap.size, 0, none⟩) 1 1) 1 1 [.string n] by simpa only [World.size_alloc] using (show Rd (w2.alloc (.cells #[.string n] 9)) (.slice (some ⟨w2.heap.size, 0, none⟩) 1 1) 1 1 [.string n] from rd_elem w2 9 1 [.string n] rfl))
                    have E3 := hide (E2.out.alloc (.cells #[.string n] 9))
                    go_simp
                    refine hK _ _ (fun _ _ => HQ.out _ b3.out) ?_
                    clear hK K
                    try simp only [Act.put, List.setIfInBounds_toArray, List.set_cons_zero, List.set_cons_succ]
                    refine wpAnyD_one (i := 11) (o := { dst := some 100, op := Op.call { callee := Callee.builtin Builtin.append, args := #[Operand.tmp 97, Operand.tmp 99], argTypes := #[39, 39] }, type := 39, pos := "ref.go:106", after := #[{ on := 8, ground := Ground.data }, { on := 10, ground := Ground.data }, { on := 8, ground := Ground.chain }], guard := none }) (by kernel_rfl) rfl (fun K hK => ?_)
                    refine step_append_w (by rfl) (.tmp 97) (.tmp 99) 39 rfl 9 i0 _ 1 16 Try.underlying39 hi hz0 hz1 hz2 rfl v2 (k) (strs ((L.map (fun x : ByteArray × Att => x.1)).take k)) rfl E3.out _ rfl 1 ([.string n]) (RD3.out) (strs_one [n]) (by unfold maxLen; omega) (by omega) ?_
                    intro v4 w4 hs4 ho4 hv4
                    have b4 := hide (b3.out.trans (ho4.below b3.out.size fun i hi => V2.out i hi))
                    have E4 := hide hs4
                    have V4 := hide (show ∀ g, v4.ownBlock = some g → w0.heap.size ≤ g from fun g hg => by
                      rcases hv4 with e | e
                      · exact V2.out g (by rw [← e]; exact hg)
                      · rw [e] at hg
                        cases hg
                        exact b3.out.size)
                    clear hs4 ho4 hv4
                    refine hK _ _ (fun _ _ => HQ.out _ b4.out) ?_
                    clear hK K
                    try simp only [Act.put, List.setIfInBounds_toArray, List.set_cons_zero, List.set_cons_succ]
                    refine wpAnyD_one (i := 18) (o := { dst := some 107, op := Op.call { callee := Callee.builtin Builtin.append, args := #[Operand.tmp 100, Operand.tmp 106], argTypes := #[39, 39] }, type := 39, pos := "ref.go:106", after := #[{ on := 11, ground := Ground.data }, { on := 17, ground := Ground.data }, { on := 11, ground := Ground.chain }], guard := none }) (by kernel_rfl) rfl (fun K hK => ?_)
                    refine step_append_w (by rfl) (.tmp 100) (.tmp 106) 39 rfl 9 i0 _ 1 16 Try.underlying39 hi hz0 hz1 hz2 rfl v4 (k + 1) (strs ((L.map (fun x : ByteArray × Att => x.1)).take k) ++ [.string n]) rfl E4.out _ rfl (n0 - k) (strs ((L.map (fun x : ByteArray × Att => x.1)).drop k)) (HBK.out _ b4.out) (strs_one _) (by unfold maxLen; omega) (by omega) ?_
                    intro v5 w5 hs5 ho5 hv5
                    have b5 := hide (b4.out.trans (ho5.below b4.out.size fun i hi => V4.out i hi))
                    have E5 := hide hs5
                    have V5 := hide (show ∀ g, v5.ownBlock = some g → w0.heap.size ≤ g from fun g hg => by
                      rcases hv5 with e | e
                      · exact V4.out g (by rw [← e]; exact hg)
                      · rw [e] at hg
                        cases hg
                        exact b4.out.size)
                    clear hs5 ho5 hv5
                    refine hK _ _ (fun _ _ => HQ.out _ b5.out) ?_
                    clear hK K
                    try simp only [Act.put, List.setIfInBounds_toArray, List.set_cons_zero, List.set_cons_succ]
                    obtain ⟨Ax, cx, hvx, _⟩ := id E5.out.form
                    subst hvx
                    refine wpAnyD_takeW (i := 19) (oi := { dst := some 108, op := Op.nilCheck (Operand.tmp 89), type := 0, pos := "ref.go:106", after := #[{ on := 0, ground := Ground.data }, { on := 0, ground := Ground.phase }, { on := 1, ground := Ground.phase }, { on := 2, ground := Ground.phase }, { on := 3, ground := Ground.phase }, { on := 4, ground := Ground.phase }, { on := 5, ground := Ground.phase }, { on := 6, ground := Ground.phase }, { on := 7, ground := Ground.phase }, { on := 8, ground := Ground.phase }, { on := 9, ground := Ground.phase }, { on := 10, ground := Ground.phase }, { on := 11, ground := Ground.phase }, { on := 12, ground := Ground.phase }, { on := 13, ground := Ground.phase }, { on := 14, ground := Ground.phase }, { on := 15, ground := Ground.phase }, { on := 16, ground := Ground.phase }, { on := 17, ground := Ground.phase }, { on := 18, ground := Ground.phase }], guard := none }) (v := ?_) rfl (by kernel_rfl) (by kernel_rfl) (by kernel_rfl) (fun _ _ _ h => h) (Or.inl ⟨by rfl, ?_⟩) ?_
                    rotate_left
                    · intro w hSw
                      clear hSw
                      go_simp
                      all_goals with_reducible rfl
                    simp only [Act.put, List.setIfInBounds_toArray, List.set_cons_zero, List.set_cons_succ]
                    refine wpAnyD_takeW (i := 20) (oi := { dst := some 109, op := Op.fieldAddr 43 (Operand.tmp 108) 0, type := 0, pos := "ref.go:106", after := #[{ on := 19, ground := Ground.data }, { on := 0, ground := Ground.phase }, { on := 1, ground := Ground.phase }, { on := 2, ground := Ground.phase }, { on := 3, ground := Ground.phase }, { on := 4, ground := Ground.phase }, { on := 5, ground := Ground.phase }, { on := 6, ground := Ground.phase }, { on := 7, ground := Ground.phase }, { on := 8, ground := Ground.phase }, { on := 9, ground := Ground.phase }, { on := 10, ground := Ground.phase }, { on := 11, ground := Ground.phase }, { on := 12, ground := Ground.phase }, { on := 13, ground := Ground.phase }, { on := 14, ground := Ground.phase }, { on := 15, ground := Ground.phase }, { on := 16, ground := Ground.phase }, { on := 17, ground := Ground.phase }, { on := 18, ground := Ground.phase }], guard := none }) (v := ?_) rfl (by kernel_rfl) (by kernel_rfl) (by kernel_rfl) (fun _ _ _ h => h) (Or.inl ⟨by rfl, ?_⟩) ?_
                    rotate_left
                    · intro w hSw
                      clear hSw
                      go_simp
                      all_goals with_reducible rfl
                    simp only [Act.put, List.setIfInBounds_toArray, List.set_cons_zero, List.set_cons_succ]
                    have fz : w5.frozen? ⟨rb, 0, none⟩ = false := (H5.out.below b5.out).blk.frozen 0
                    have hS := HQ.out _ b5.out
                    refine wpAnyD_one (i := 21) (o := { dst := none, op := Op.store 39 (Operand.tmp 109) (Operand.tmp 107), type := 0, pos := "ref.go:106", after := #[{ on := 20, ground := Ground.data }, { on := 18, ground := Ground.data }, { on := 18, ground := Ground.chain }, { on := 0, ground := Ground.phase }, { on := 1, ground := Ground.phase }, { on := 2, ground := Ground.phase }, { on := 3, ground := Ground.phase }, { on := 4, ground := Ground.phase }, { on := 5, ground := Ground.phase }, { on := 6, ground := Ground.phase }, { on := 7, ground := Ground.phase }, { on := 8, ground := Ground.phase }, { on := 9, ground := Ground.phase }, { on := 10, ground := Ground.phase }, { on := 11, ground := Ground.phase }, { on := 12, ground := Ground.phase }, { on := 13, ground := Ground.phase }, { on := 14, ground := Ground.phase }, { on := 15, ground := Ground.phase }, { on := 16, ground := Ground.phase }, { on := 17, ground := Ground.phase }, { on := 18, ground := Ground.phase }], guard := none }) (by kernel_rfl) rfl (fun K hK => ?_)
                    go_simp
                    refine hK _ _ (fun h => by cases h) ?_
                    clear hK K
                    try simp only [Act.put, List.setIfInBounds_toArray, List.set_cons_zero, List.set_cons_succ]
                    refine wpAnyD_done (by kernel_rfl) ?_ _
                    go_wp2_with fail
                    all_goals go_meet
                    all_goals exact ⟨_, H5.out.setN b5.out (HFIN.out _ _ E5.out) V5.out⟩
                  · have b2 := hide (b1.out.alloc b1.out.size (.cells #[.string n] 9))
                    have RD2 := hide (show Rd ((w0.alloc (.cells #[] 9)).alloc (.cells #[.string n] 9)) (.slice (some ⟨w0.heap.size + 1, 0, none⟩) 1 1) 1 1 [.string n] by simpa only [World.size_alloc] using (show Rd ((w0.alloc (.cells #[] 9)).alloc (.cells #[.string n] 9)) (.slice (some ⟨(w0.alloc (.cells #[] 9)).heap.size, 0, none⟩) 1 1) 1 1 [.string n] from rd_elem (w0.alloc (.cells #[] 9)) 9 1 [.string n] rfl))
                    have E2 := hide (E1.out.alloc (.cells #[.string n] 9))
                    go_simp
                    refine hK _ _ (fun _ _ => HQ.out _ b2.out) ?_
                    clear hK K
                    try simp only [Act.put, List.setIfInBounds_toArray, List.set_cons_zero, List.set_cons_succ]
                    refine wpAnyD_one (i := 8) (o := { dst := some 97, op := Op.call { callee := Callee.builtin Builtin.append, args := #[Operand.tmp 90, Operand.tmp 96], argTypes := #[39, 39] }, type := 39, pos := "ref.go:106", after := #[{ on := 1, ground := Ground.data }, { on := 7, ground := Ground.data }], guard := none }) (by kernel_rfl) rfl (fun K hK => ?_)
                    refine step_append_w (by rfl) (.tmp 90) (.tmp 96) 39 rfl 9 i0 _ 1 16 Try.underlying39 hi hz0 hz1 hz2 rfl (.slice (some ⟨w0.heap.size, 0, none⟩) 0 0) (0) ([]) rfl E2.out _ rfl k (strs ((L.map (fun x : ByteArray × Att => x.1)).take k)) (HFT.out _ b2.out) (strs_one _) (by unfold maxLen; omega) (by omega) ?_
                    intro v3 w3 hs3 ho3 hv3
                    rw [Nat.zero_add, List.nil_append] at hs3
                    have b3 := hide (b2.out.trans (ho3.below b2.out.size fun i hi => V1.out i hi))
                    have E3 := hide hs3
                    have V3 := hide (show ∀ g, v3.ownBlock = some g → w0.heap.size ≤ g from fun g hg => by
                      rcases hv3 with e | e
                      · exact V1.out g (by rw [← e]; exact hg)
                      · rw [e] at hg
                        cases hg
                        exact b2.out.size)
                    have RD3 := hide (RD2.out.only ho3 (fun g hg hF => by
                      cases hg
                      injection hF with hF
                      have : w0.heap.size = w0.heap.size + 1 := hF
                      omega))
                    clear hs3 ho3 hv3
                    refine hK _ _ (fun _ _ => HQ.out _ b3.out) ?_
                    clear hK K
                    try simp only [Act.put, List.setIfInBounds_toArray, List.set_cons_zero, List.set_cons_succ]
                    refine wpAnyD_one (i := 11) (o := { dst := some 100, op := Op.call { callee := Callee.builtin Builtin.append, args := #[Operand.tmp 97, Operand.tmp 99], argTypes := #[39, 39] }, type := 39, pos := "ref.go:106", after := #[{ on := 8, ground := Ground.data }, { on := 10, ground := Ground.data }, { on := 8, ground := Ground.chain }], guard := none }) (by kernel_rfl) rfl (fun K hK => ?_)
                    refine step_append_w (by rfl) (.tmp 97) (.tmp 99) 39 rfl 9 i0 _ 1 16 Try.underlying39 hi hz0 hz1 hz2 rfl v3 (k) (strs ((L.map (fun x : ByteArray × Att => x.1)).take k)) rfl E3.out _ rfl 1 ([.string n]) (RD3.out) (strs_one [n]) (by unfold maxLen; omega) (by omega) ?_
                    intro v4 w4 hs4 ho4 hv4
                    have b4 := hide (b3.out.trans (ho4.below b3.out.size fun i hi => V3.out i hi))
                    have E4 := hide hs4
                    have V4 := hide (show ∀ g, v4.ownBlock = some g → w0.heap.size ≤ g from fun g hg => by
                      rcases hv4 with e | e
                      · exact V3.out g (by rw [← e]; exact hg)
                      · rw [e] at hg
                        cases hg
                        exact b3.out.size)
                    clear hs4 ho4 hv4
                    refine hK _ _ (fun _ _ => HQ.out _ b4.out) ?_
                    clear hK K
                    try simp only [Act.put, List.setIfInBounds_toArray, List.set_cons_zero, List.set_cons_succ]
                    refine wpAnyD_one (i := 18) (o := { dst := some 107, op := Op.call { callee := Callee.builtin Builtin.append, args := #[Operand.tmp 100, Operand.tmp 106], argTypes := #[39, 39] }, type := 39, pos := "ref.go:106", after := #[{ on := 11, ground := Ground.data }, { on := 17, ground := Ground.data }, { on := 11, ground := Ground.chain }], guard := none }) (by kernel_rfl) rfl (fun K hK => ?_)
                    refine step_append_w (by rfl) (.tmp 100) (.tmp 106) 39 rfl 9 i0 _ 1 16 Try.underlying39 hi hz0 hz1 hz2 rfl v4 (k + 1) (strs ((L.map (fun x : ByteArray × Att => x.1)).take k) ++ [.string n]) rfl E4.out _ rfl (n0 - k) (strs ((L.map (fun x : ByteArray × Att => x.1)).drop k)) (HBK.out _ b4.out) (strs_one _) (by unfold maxLen; omega) (by omega) ?_
                    intro v5 w5 hs5 ho5 hv5
                    have b5 := hide (b4.out.trans (ho5.below b4.out.size fun i hi => V4.out i hi))
                    have E5 := hide hs5
                    have V5 := hide (show ∀ g, v5.ownBlock = some g → w0.heap.size ≤ g from fun g hg => by
                      rcases hv5 with e | e
                      · exact V4.out g (by rw [← e]; exact hg)
                      · rw [e] at hg
                        cases hg
                        exact b4.out.size)
                    clear hs5 ho5 hv5
                    refine hK _ _ (fun _ _ => HQ.out _ b5.out) ?_
                    clear hK K
                    try simp only [Act.put, List.setIfInBounds_toArray, List.set_cons_zero, List.set_cons_succ]
                    obtain ⟨Ax, cx, hvx, _⟩ := id E5.out.form
                    subst hvx
                    refine wpAnyD_takeW (i := 19) (oi := { dst := some 108, op := Op.nilCheck (Operand.tmp 89), type := 0, pos := "ref.go:106", after := #[{ on := 0, ground := Ground.data }, { on := 0, ground := Ground.phase }, { on := 1, ground := Ground.phase }, { on := 2, ground := Ground.phase }, { on := 3, ground := Ground.phase }, { on := 4, ground := Ground.phase }, { on := 5, ground := Ground.phase }, { on := 6, ground := Ground.phase }, { on := 7, ground := Ground.phase }, { on := 8, ground := Ground.phase }, { on := 9, ground := Ground.phase }, { on := 10, ground := Ground.phase }, { on := 11, ground := Ground.phase }, { on := 12, ground := Ground.phase }, { on := 13, ground := Ground.phase }, { on := 14, ground := Ground.phase }, { on := 15, ground := Ground.phase }, { on := 16, ground := Ground.phase }, { on := 17, ground := Ground.phase }, { on := 18, ground := Ground.phase }], guard := none }) (v := ?_) rfl (by kernel_rfl) (by kernel_rfl) (by kernel_rfl) (fun _ _ _ h => h) (Or.inl ⟨by rfl, ?_⟩) ?_
                    rotate_left
                    · intro w hSw
                      clear hSw
                      go_simp
                      all_goals with_reducible rfl
                    simp only [Act.put, List.setIfInBounds_toArray, List.set_cons_zero, List.set_cons_succ]
                    refine wpAnyD_takeW (i := 20) (oi := { dst := some 109, op := Op.fieldAddr 43 (Operand.tmp 108) 0, type := 0, pos := "ref.go:106", after := #[{ on := 19, ground := Ground.data }, { on := 0, ground := Ground.phase }, { on := 1, ground := Ground.phase }, { on := 2, ground := Ground.phase }, { on := 3, ground := Ground.phase }, { on := 4, ground := Ground.phase }, { on := 5, ground := Ground.phase }, { on := 6, ground := Ground.phase }, { on := 7, ground := Ground.phase }, { on := 8, ground := Ground.phase }, { on := 9, ground := Ground.phase }, { on := 10, ground := Ground.phase }, { on := 11, ground := Ground.phase }, { on := 12, ground := Ground.phase }, { on := 13, ground := Ground.phase }, { on := 14, ground := Ground.phase }, { on := 15, ground := Ground.phase }, { on := 16, ground := Ground.phase }, { on := 17, ground := Ground.phase }, { on := 18, ground := Ground.phase }], guard := none }) (v := ?_) rfl (by kernel_rfl) (by kernel_rfl) (by kernel_rfl) (fun _ _ _ h => h) (Or.inl ⟨by rfl, ?_⟩) ?_
                    rotate_left
                    · intro w hSw
                      clear hSw
                      go_simp
                      all_goals with_reducible rfl
                    simp only [Act.put, List.setIfInBounds_toArray, List.set_cons_zero, List.set_cons_succ]
                    have fz : w5.frozen? ⟨rb, 0, none⟩ = false := (H5.out.below b5.out).blk.frozen 0
                    have hS := HQ.out _ b5.out
                    refine wpAnyD_one (i := 21) (o := { dst := none, op := Op.store 39 (Operand.tmp 109) (Operand.tmp 107), type := 0, pos := "ref.go:106", after := #[{ on := 20, ground := Ground.data }, { on := 18, ground := Ground.data }, { on := 18, ground := Ground.chain }, { on := 0, ground := Ground.phase }, { on := 1, ground := Ground.phase }, { on := 2, ground := Ground.phase }, { on := 3, ground := Ground.phase }, { on := 4, ground := Ground.phase }, { on := 5, ground := Ground.phase }, { on := 6, ground := Ground.phase }, { on := 7, ground := Ground.phase }, { on := 8, ground := Ground.phase }, { on := 9, ground := Ground.phase }, { on := 10, ground := Ground.phase }, { on := 11, ground := Ground.phase }, { on := 12, ground := Ground.phase }, { on := 13, ground := Ground.phase }, { on := 14, ground := Ground.phase }, { on := 15, ground := Ground.phase }, { on := 16, ground := Ground.phase }, { on := 17, ground := Ground.phase }, { on := 18, ground := Ground.phase }], guard := none }) (by kernel_rfl) rfl (fun K hK => ?_)
                    go_simp
                    refine hK _ _ (fun h => by cases h) ?_
                    clear hK K
                    try simp only [Act.put, List.setIfInBounds_toArray, List.set_cons_zero, List.set_cons_succ]
                    refine wpAnyD_done (by kernel_rfl) ?_ _
                    go_wp2_with fail
                    all_goals go_meet
                    all_goals exact ⟨_, H5.out.setN b5.out (HFIN.out _ _ E5.out) V5.out⟩
                · have b1 := hide (b0.out.alloc b0.out.size (.cells #[.string n] 9))
                  have RD1 := hide (show Rd (w0.alloc (.cells #[.string n] 9)) (.slice (some ⟨w0.heap.size, 0, none⟩) 1 1) 1 1 [.string n] by simpa only [World.size_alloc] using (show Rd (w0.alloc (.cells #[.string n] 9)) (.slice (some ⟨w0.heap.size, 0, none⟩) 1 1) 1 1 [.string n] from rd_elem w0 9 1 [.string n] rfl))
                  go_simp
                  refine hK _ _ (fun _ _ => HQ.out _ b1.out) ?_
                  clear hK K
                  try simp only [Act.put, List.setIfInBounds_toArray, List.set_cons_zero, List.set_cons_succ]
                  refine wpAnyD_one (i := 1) (o := { dst := some 90, op := Op.buildSlice 39 0 #[], type := 39, pos := "ref.go:106", after := #[], guard := none }) (by kernel_rfl) rfl (fun K hK => ?_)
                  have b2 := hide (b1.out.alloc b1.out.size (.cells #[] 9))
                  have E2 := hide (show Sl ((w0.alloc (.cells #[.string n] 9)).alloc (.cells #[] 9)) 9 1 (.slice (some ⟨w0.heap.size + 1, 0, none⟩) 0 0) 0 [] by simpa only [World.size_alloc] using (show Sl ((w0.alloc (.cells #[.string n] 9)).alloc (.cells #[] 9)) 9 1 (.slice (some ⟨(w0.alloc (.cells #[.string n] 9)).heap.size, 0, none⟩) 0 0) 0 [] from Sl.new (w0.alloc (.cells #[.string n] 9)) 9 1 #[] 0 0 (Nat.le_refl _) (Nat.zero_le _) (Nat.le_refl _)))
                  have V2 := hide (show ∀ g, (Value.slice (some ⟨w0.heap.size + 1, 0, none⟩) 0 0).ownBlock = some g → w0.heap.size ≤ g from fun g hg => by
                    cases hg
                    have := b1.out.size
                    simpa only [World.size_alloc] using this)
                  have RD2 := hide (RD1.out.belowF ((Below.refl _ _).alloc (Nat.le_refl _) (.cells #[] 9)))
                  go_simp
                  refine hK _ _ (fun _ _ => HQ.out _ b2.out) ?_
                  clear hK K
                  try simp only [Act.put, List.setIfInBounds_toArray, List.set_cons_zero, List.set_cons_succ]
                  refine wpAnyD_one (i := 8) (o := { dst := some 97, op := Op.call { callee := Callee.builtin Builtin.append, args := #[Operand.tmp 90, Operand.tmp 96], argTypes := #[39, 39] }, type := 39, pos := "ref.go:106", after := #[{ on := 1, ground := Ground.data }, { on := 7, ground := Ground.data }], guard := none }) (by kernel_rfl) rfl (fun K hK => ?_)
                  refine step_append_w (by rfl) (.tmp 90) (.tmp 96) 39 rfl 9 i0 _ 1 16 Try.underlying39 hi hz0 hz1 hz2 rfl (.slice (some ⟨w0.heap.size + 1, 0, none⟩) 0 0) (0) ([]) rfl E2.out _ rfl k (strs ((L.map (fun x : ByteArray × Att => x.1)).take k)) (HFT.out _ b2.out) (strs_one _) (by unfold maxLen; omega) (by omega) ?_
                  intro v3 w3 hs3 ho3 hv3
                  rw [Nat.zero_add, List.nil_append] at hs3
                  have b3 := hide (b2.out.trans (ho3.below b2.out.size fun i hi => V2.out i hi))
                  have E3 := hide hs3
                  have V3 := hide (show ∀ g, v3.ownBlock = some g → w0.heap.size ≤ g from fun g hg => by
                    rcases hv3 with e | e
                    · exact V2.out g (by rw [← e]; exact hg)
                    · rw [e] at hg
                      cases hg
                      exact b2.out.size)
                  have RD3 := hide (RD2.out.only ho3 (fun g hg hF => by
                    cases hg
                    injection hF with hF
                    have : w0.heap.size + 1 = w0.heap.size := hF
                    omega))
                  clear hs3 ho3 hv3
                  refine hK _ _ (fun _ _ => HQ.out _ b3.out) ?_
                  clear hK K
                  try simp only [Act.put, List.setIfInBounds_toArray, List.set_cons_zero, List.set_cons_succ]
                  refine wpAnyD_one (i := 11) (o := { dst := some 100, op := Op.call { callee := Callee.builtin Builtin.append, args := #[Operand.tmp 97, Operand.tmp 99], argTypes := #[39, 39] }, type := 39, pos := "ref.go:106", after := #[{ on := 8, ground := Ground.data }, { on := 10, ground := Ground.data }, { on := 8, ground := Ground.chain }], guard := none }) (by kernel_rfl) rfl (fun K hK => ?_)
                  refine step_append_w (by rfl) (.tmp 97) (.tmp 99) 39 rfl 9 i0 _ 1 16 Try.underlying39 hi hz0 hz1 hz2 rfl v3 (k) (strs ((L.map (fun x : ByteArray × Att => x.1)).take k)) rfl E3.out _ rfl 1 ([.string n]) (RD3.out) (strs_one [n]) (by unfold maxLen; omega) (by omega) ?_
                  intro v4 w4 hs4 ho4 hv4
                  have b4 := hide (b3.out.trans (ho4.below b3.out.size fun i hi => V3.out i hi))
                  have E4 := hide hs4
                  have V4 := hide (show ∀ g, v4.ownBlock = some g → w0.heap.size ≤ g from fun g hg => by
                    rcases hv4 with e | e
                    · exact V3.out g (by rw [← e]; exact hg)
                    · rw [e] at hg
                      cases hg
                      exact b3.out.size)
                  clear hs4 ho4 hv4
                  refine hK _ _ (fun _ _ => HQ.out _ b4.out) ?_
                  clear hK K
                  try simp only [Act.put, List.setIfInBounds_toArray, List.set_cons_zero, List.set_cons_succ]
                  refine wpAnyD_one (i := 18) (o := { dst := some 107, op := Op.call { callee := Callee.builtin Builtin.append, args := #[Operand.tmp 100, Operand.tmp 106], argTypes := #[39, 39] }, type := 39, pos := "ref.go:106", after := #[{ on := 11, ground := Ground.data }, { on := 17, ground := Ground.data }, { on := 11, ground := Ground.chain }], guard := none }) (by kernel_rfl) rfl (fun K hK => ?_)
                  refine step_append_w (by rfl) (.tmp 100) (.tmp 106) 39 rfl 9 i0 _ 1 16 Try.underlying39 hi hz0 hz1 hz2 rfl v4 (k + 1) (strs ((L.map (fun x : ByteArray × Att => x.1)).take k) ++ [.string n]) rfl E4.out _ rfl (n0 - k) (strs ((L.map (fun x : ByteArray × Att => x.1)).drop k)) (HBK.out _ b4.out) (strs_one _) (by unfold maxLen; omega) (by omega) ?_
                  intro v5 w5 hs5 ho5 hv5
                  have b5 := hide (b4.out.trans (ho5.below b4.out.size fun i hi => V4.out i hi))
                  have E5 := hide hs5
                  have V5 := hide (show ∀ g, v5.ownBlock = some g → w0.heap.size ≤ g from fun g hg => by
                    rcases hv5 with e | e
                    · exact V4.out g (by rw [← e]; exact hg)
                    · rw [e] at hg
                      cases hg
                      exact b4.out.size)
                  clear hs5 ho5 hv5
                  refine hK _ _ (fun _ _ => HQ.out _ b5.out) ?_
                  clear hK K
                  try simp only [Act.put, List.setIfInBounds_toArray, List.set_cons_zero, List.set_cons_succ]
                  obtain ⟨Ax, cx, hvx, _⟩ := id E5.out.form
                  subst hvx
                  refine wpAnyD_takeW (i := 19) (oi := { dst := some 108, op := Op.nilCheck (Operand.tmp 89), type := 0, pos := "ref.go:106", after := #[{ on := 0, ground := Ground.data }, { on := 0, ground := Ground.phase }, { on := 1, ground := Ground.phase }, { on := 2, ground := Ground.phase }, { on := 3, ground := Ground.phase }, { on := 4, ground := Ground.phase }, { on := 5, ground := Ground.phase }, { on := 6, ground := Ground.phase }, { on := 7, ground := Ground.phase }, { on := 8, ground := Ground.phase }, { on := 9, ground := Ground.phase }, { on := 10, ground := Ground.phase }, { on := 11, ground := Ground.phase }, { on := 12, ground := Ground.phase }, { on := 13, ground := Ground.phase }, { on := 14, ground := Ground.phase }, { on := 15, ground := Ground.phase }, { on := 16, ground := Ground.phase }, { on := 17, ground := Ground.phase }, { on := 18, ground := Ground.phase }], guard := none }) (v := ?_) rfl (by kernel_rfl) (by kernel_rfl) (by kernel_rfl) (fun _ _ _ h => h) (Or.inl ⟨by rfl, ?_⟩) ?_
                  rotate_left
                  · intro w hSw
                    clear hSw
                    go_simp
                    all_goals with_reducible rfl
                  simp only [Act.put, List.setIfInBounds_toArray, List.set_cons_zero, List.set_cons_succ]
                  refine wpAnyD_takeW (i := 20) (oi := { dst := some 109, op := Op.fieldAddr 43 (Operand.tmp 108) 0, type := 0, pos := "ref.go:106", after := #[{ on := 19, ground := Ground.data }, { on := 0, ground := Ground.phase }, { on := 1, ground := Ground.phase }, { on := 2, ground := Ground.phase }, { on := 3, ground := Ground.phase }, { on := 4, ground := Ground.phase }, { on := 5, ground := Ground.phase }, { on := 6, ground := Ground.phase }, { on := 7, ground := Ground.phase }, { on := 8, ground := Ground.phase }, { on := 9, ground := Ground.phase }, { on := 10, ground := Ground.phase }, { on := 11, ground := Ground.phase }, { on := 12, ground := Ground.phase }, { on := 13, ground := Ground.phase }, { on := 14, ground := Ground.phase }, { on := 15, ground := Ground.phase }, { on := 16, ground := Ground.phase }, { on := 17, ground := Ground.phase }, { on := 18, ground := Ground.phase }], guard := none }) (v := ?_) rfl (by kernel_rfl) (by kernel_rfl) (by kernel_rfl) (fun _ _ _ h => h) (Or.inl ⟨by rfl, ?_⟩) ?_
                  rotate_left
                  · intro w hSw
                    clear hSw
                    go_simp
                    all_goals with_reducible rfl
                  simp only [Act.put, List.setIfInBounds_toArray, List.set_cons_zero, List.set_cons_succ]
                  have fz : w5.frozen? ⟨rb, 0, none⟩ = false := (H5.out.below b5.out).blk.frozen 0
                  have hS := HQ.out _ b5.out
                  refine wpAnyD_one (i := 21) (o := { dst := none, op := Op.store 39 (Operand.tmp 109) (Operand.tmp 107), type := 0, pos := "ref.go:106", after := #[{ on := 20, ground := Ground.data }, { on := 18, ground := Ground.data }, { on := 18, ground := Ground.chain }, { on := 0, ground := Ground.phase }, { on := 1, ground := Ground.phase }, { on := 2, ground := Ground.phase }, { on := 3, ground := Ground.phase }, { on := 4, ground := Ground.phase }, { on := 5, ground := Ground.phase }, { on := 6, ground := Ground.phase }, { on := 7, ground := Ground.phase }, { on := 8, ground := Ground.phase }, { on := 9, ground := Ground.phase }, { on := 10, ground := Ground.phase }, { on := 11, ground := Ground.phase }, { on := 12, ground := Ground.phase }, { on := 13, ground := Ground.phase }, { on := 14, ground := Ground.phase }, { on := 15, ground := Ground.phase }, { on := 16, ground := Ground.phase }, { on := 17, ground := Ground.phase }, { on := 18, ground := Ground.phase }], guard := none }) (by kernel_rfl) rfl (fun K hK => ?_)
                  go_simp
                  refine hK _ _ (fun h => by cases h) ?_
                  clear hK K
                  try simp only [Act.put, List.setIfInBounds_toArray, List.set_cons_zero, List.set_cons_succ]
                  refine wpAnyD_done (by kernel_rfl) ?_ _
                  go_wp2_with fail
                  all_goals go_meet
                  all_goals exact ⟨_, H5.out.setN b5.out (HFIN.out _ _ E5.out) V5.out⟩
              case rest =>
                obtain ⟨vN, h6⟩ := hcut
                have H6 := hide h6
                clear h6 H4 HST HFIN
                have HFIN := hide (fun (w' : World) (v' : Value) => fin_atts (w := w') (v := v') (n := n) (a := a) (L := L) (k := k) (n0 := n0) HL.out hk)
                go_wp2_with fail
                have H5 := hide (H6.out.below (Below.refl _ _).drew)
                refine wp_region_d (S := fun w' => w'.cell? ⟨rb, 1, none⟩ = some (.slice (some ⟨g2, off2, none⟩) n0 d) ∧ w'.cell? ⟨w.heap.size, 0, none⟩ = some (.int .i64 a.fo) ∧ w'.cell? ⟨w.heap.size, 1, none⟩ = some (.int .i64 a.ba) ∧ w'.cell? ⟨w.heap.size, 2, none⟩ = some (.int .i64 a.bo) ∧ w'.cell? ⟨w.heap.size, 3, none⟩ = some (.int .i64 a.un) ∧ w'.cell? ⟨w.heap.size, 4, none⟩ = some (.int .i64 a.iv) ∧ w'.cell? ⟨w.heap.size, 5, none⟩ = some (.string a.inh)) (D := [21]) (by kernel_rfl) ?_
                change wpAnyD _ _ _ _ _ _ _ _ _ wc.drew
                generalize wc.drew = w0 at H5 ⊢
                have b0 := hide (Below.refl w0.heap.size w0)
                have HQ := hide (show ∀ w', Below w0.heap.size w0 w' → w'.cell? ⟨rb, 1, none⟩ = some (.slice (some ⟨g2, off2, none⟩) n0 d) ∧ w'.cell? ⟨w.heap.size, 0, none⟩ = some (.int .i64 a.fo) ∧ w'.cell? ⟨w.heap.size, 1, none⟩ = some (.int .i64 a.ba) ∧ w'.cell? ⟨w.heap.size, 2, none⟩ = some (.int .i64 a.bo) ∧ w'.cell? ⟨w.heap.size, 3, none⟩ = some (.int .i64 a.un) ∧ w'.cell? ⟨w.heap.size, 4, none⟩ = some (.int .i64 a.iv) ∧ w'.cell? ⟨w.heap.size, 5, none⟩ = some (.string a.inh) from fun w' hb => by
                  have h := H5.out.below hb
                  obtain ⟨a0, a1, a2, a3, a4, a5⟩ := h.boxAt
                  exact ⟨by rw [h.blk.cell]; rfl, a0, a1, a2, a3, a4, a5⟩)
                have HFT := hide (show ∀ w', Below w0.heap.size w0 w' → Rd w' (.slice (some ⟨g2, off2, none⟩) k d) 6 k (rows Att.cells ((L.map (·.2)).take k)) from fun w' hb => by
                  have h1 := (H5.out.slA.rd).belowF hb
                  rw [List.length_map, HL.out] at h1
                  rw [← rows_take att_len]
                  exact h1.front hk d)
                have HBK := hide (show ∀ w', Below w0.heap.size w0 w' → Rd w' (.slice (if d = k then some ⟨g2, off2, none⟩ else some ⟨g2, off2 + k * 6, none⟩) (n0 - k) (d - k)) 6 (n0 - k) (rows Att.cells ((L.map (·.2)).drop k)) from fun w' hb => by
                  have h1 := (H5.out.slA.rd).belowF hb
                  rw [List.length_map, HL.out] at h1
                  rw [← rows_drop att_len]
                  exact h1.back_if hk hnd (d - k))
                obtain ⟨i0, hi, hz0, hz1, hz2⟩ := info_parts info_att
                have hS := HQ.out _ b0.out
                refine wpAnyD_takeW (i := 0) (oi := { dst := some 110, op := Op.move (Operand.tmp 0), type := 32, pos := "ref.go:107", after := #[], guard := none }) (v := ?_) rfl (by kernel_rfl) (by kernel_rfl) (by kernel_rfl) (fun _ _ _ h => h) (Or.inl ⟨by rfl, ?_⟩) ?_
                rotate_left
                · intro w hSw
                  clear hSw
                  go_simp
                  all_goals with_reducible rfl
                simp only [Act.put, List.setIfInBounds_toArray, List.set_cons_zero, List.set_cons_succ]
                refine wpAnyD_takeW (i := 2) (oi := { dst := some 112, op := Op.move (Operand.tmp 0), type := 32, pos := "ref.go:107", after := #[], guard := none }) (v := ?_) rfl (by kernel_rfl) (by kernel_rfl) (by kernel_rfl) (fun _ _ _ h => h) (Or.inl ⟨by rfl, ?_⟩) ?_
                rotate_left
                · intro w hSw
                  clear hSw
                  go_simp
                  all_goals with_reducible rfl
                simp only [Act.put, List.setIfInBounds_toArray, List.set_cons_zero, List.set_cons_succ]
                refine wpAnyD_takeW (i := 3) (oi := { dst := some 113, op := Op.nilCheck (Operand.tmp 112), type := 0, pos := "ref.go:107", after := #[{ on := 2, ground := Ground.data }], guard := none }) (v := ?_) rfl (by kernel_rfl) (by kernel_rfl) (by kernel_rfl) (fun _ _ _ h => h) (Or.inl ⟨by rfl, ?_⟩) ?_
                rotate_left
                · intro w hSw
                  clear hSw
                  go_simp
                  all_goals with_reducible rfl
                simp only [Act.put, List.setIfInBounds_toArray, List.set_cons_zero, List.set_cons_succ]
                refine wpAnyD_takeW (i := 4) (oi := { dst := some 114, op := Op.fieldAddr 43 (Operand.tmp 113) 1, type := 0, pos := "ref.go:107", after := #[{ on := 3, ground := Ground.data }], guard := none }) (v := ?_) rfl (by kernel_rfl) (by kernel_rfl) (by kernel_rfl) (fun _ _ _ h => h) (Or.inl ⟨by rfl, ?_⟩) ?_
                rotate_left
                · intro w hSw
                  clear hSw
                  go_simp
                  all_goals with_reducible rfl
                simp only [Act.put, List.setIfInBounds_toArray, List.set_cons_zero, List.set_cons_succ]
                refine wpAnyD_take (i := 5) (oi := { dst := some 115, op := Op.load 41 (Operand.tmp 114), type := 41, pos := "ref.go:107", after := #[{ on := 4, ground := Ground.data }], guard := none }) (v := ?_) rfl (by kernel_rfl) (by kernel_rfl) (by kernel_rfl) (by kernel_rfl) (by kernel_rfl) (fun _ _ _ h => h) (Or.inl ⟨by rfl, ?_⟩) hS ?_
                rotate_left
                · intro w hSw
                  (try dsimp only at hSw)
                  (try go_split_ands)
                  go_simp
                  all_goals with_reducible rfl
                simp only [Act.put, List.setIfInBounds_toArray, List.set_cons_zero, List.set_cons_succ]
                refine wpAnyD_takeW (i := 6) (oi := { dst := some 116, op := Op.move (Operand.tmp 8), type := 3, pos := "ref.go:107", after := #[], guard := none }) (v := ?_) rfl (by kernel_rfl) (by kernel_rfl) (by kernel_rfl) (fun _ _ _ h => h) (Or.inl ⟨by rfl, ?_⟩) ?_
                rotate_left
                · intro w hSw
                  clear hSw
                  go_simp
                  all_goals with_reducible rfl
                simp only [Act.put, List.setIfInBounds_toArray, List.set_cons_zero, List.set_cons_succ]
                refine wpAnyD_takeW (i := 7) (oi := { dst := some 117, op := Op.slice 41 (Operand.tmp 115) none (some (Operand.tmp 116)) none, type := 41, pos := "ref.go:107", after := #[{ on := 5, ground := Ground.data }, { on := 6, ground := Ground.data }], guard := none }) (v := ?_) rfl (by kernel_rfl) (by kernel_rfl) (by kernel_rfl) (fun _ _ _ h => h) (Or.inl ⟨by rfl, ?_⟩) ?_
                rotate_left
                · intro w hSw
                  clear hSw
                  go_simp
                  all_goals with_reducible rfl
                simp only [Act.put, List.setIfInBounds_toArray, List.set_cons_zero, List.set_cons_succ]
                refine wpAnyD_take (i := 9) (oi := { dst := some 119, op := Op.load 23 (Operand.tmp 5), type := 23, pos := "ref.go:107", after := #[], guard := none }) (v := ?_) rfl (by kernel_rfl) (by kernel_rfl) (by kernel_rfl) (by kernel_rfl) (by kernel_rfl) (fun _ _ _ h => h) (Or.inl ⟨by rfl, ?_⟩) hS ?_
                rotate_left
                · intro w hSw
                  (try dsimp only at hSw)
                  (try go_split_ands)
                  go_simp
                  all_goals with_reducible rfl
                simp only [Act.put, List.setIfInBounds_toArray, List.set_cons_zero, List.set_cons_succ]
                refine wpAnyD_takeW (i := 12) (oi := { dst := some 122, op := Op.move (Operand.tmp 0), type := 32, pos := "ref.go:107", after := #[], guard := none }) (v := ?_) rfl (by kernel_rfl) (by kernel_rfl) (by kernel_rfl) (fun _ _ _ h => h) (Or.inl ⟨by rfl, ?_⟩) ?_
                rotate_left
                · intro w hSw
                  clear hSw
                  go_simp
                  all_goals with_reducible rfl
                simp only [Act.put, List.setIfInBounds_toArray, List.set_cons_zero, List.set_cons_succ]
                refine wpAnyD_takeW (i := 13) (oi := { dst := some 123, op := Op.nilCheck (Operand.tmp 122), type := 0, pos := "ref.go:107", after := #[{ on := 12, ground := Ground.data }], guard := none }) (v := ?_) rfl (by kernel_rfl) (by kernel_rfl) (by kernel_rfl) (fun _ _ _ h => h) (Or.inl ⟨by rfl, ?_⟩) ?_
                rotate_left
                · intro w hSw
                  clear hSw
                  go_simp
                  all_goals with_reducible rfl
                simp only [Act.put, List.setIfInBounds_toArray, List.set_cons_zero, List.set_cons_succ]
                refine wpAnyD_takeW (i := 14) (oi := { dst := some 124, op := Op.fieldAddr 43 (Operand.tmp 123) 1, type := 0, pos := "ref.go:107", after := #[{ on := 13, ground := Ground.data }], guard := none }) (v := ?_) rfl (by kernel_rfl) (by kernel_rfl) (by kernel_rfl) (fun _ _ _ h => h) (Or.inl ⟨by rfl, ?_⟩) ?_
                rotate_left
                · intro w hSw
                  clear hSw
                  go_simp
                  all_goals with_reducible rfl
                simp only [Act.put, List.setIfInBounds_toArray, List.set_cons_zero, List.set_cons_succ]
                refine wpAnyD_take (i := 15) (oi := { dst := some 125, op := Op.load 41 (Operand.tmp 124), type := 41, pos := "ref.go:107", after := #[{ on := 14, ground := Ground.data }], guard := none }) (v := ?_) rfl (by kernel_rfl) (by kernel_rfl) (by kernel_rfl) (by kernel_rfl) (by kernel_rfl) (fun _ _ _ h => h) (Or.inl ⟨by rfl, ?_⟩) hS ?_
                rotate_left
                · intro w hSw
                  (try dsimp only at hSw)
                  (try go_split_ands)
                  go_simp
                  all_goals with_reducible rfl
                simp only [Act.put, List.setIfInBounds_toArray, List.set_cons_zero, List.set_cons_succ]
                refine wpAnyD_takeW (i := 16) (oi := { dst := some 126, op := Op.move (Operand.tmp 8), type := 3, pos := "ref.go:107", after := #[], guard := none }) (v := ?_) rfl (by kernel_rfl) (by kernel_rfl) (by kernel_rfl) (fun _ _ _ h => h) (Or.inl ⟨by rfl, ?_⟩) ?_
                rotate_left
                · intro w hSw
                  clear hSw
                  go_simp
                  all_goals with_reducible rfl
                simp only [Act.put, List.setIfInBounds_toArray, List.set_cons_zero, List.set_cons_succ]
                refine wpAnyD_takeW (i := 17) (oi := { dst := some 127, op := Op.slice 41 (Operand.tmp 125) (some (Operand.tmp 126)) none none, type := 41, pos := "ref.go:107", after := #[{ on := 15, ground := Ground.data }, { on := 16, ground := Ground.data }], guard := none }) (v := ?_) rfl (by kernel_rfl) (by kernel_rfl) (by kernel_rfl) (fun _ _ _ h => h) (Or.inl ⟨by rfl, ?_⟩) ?_
                rotate_left
                · intro w hSw
                  clear hSw
                  go_simp
                  all_goals with_reducible rfl
                simp only [Act.put, List.setIfInBounds_toArray, List.set_cons_zero, List.set_cons_succ]
                clear hS
                refine wpAnyD_two (i := 1) (j := 10) (o := { dst := some 111, op := Op.buildSlice 41 0 #[], type := 41, pos := "ref.go:107", after := #[], guard := none }) (p := { dst := some 120, op := Op.buildSlice 41 1 #[(0, Operand.tmp 119)], type := 41, pos := "ref.go:107", after := #[{ on := 9, ground := Ground.data }], guard := none }) (by kernel_rfl) rfl rfl (fun K hK => ?_) (fun K hK => ?_)
                · have b1 := hide (b0.out.alloc b0.out.size (.cells #[] 23))
                  have E1 := hide (show Sl (w0.alloc (.cells #[] 23)) 23 6 (.slice (some ⟨w0.heap.size, 0, none⟩) 0 0) 0 [] by simpa only [World.size_alloc] using (show Sl (w0.alloc (.cells #[] 23)) 23 6 (.slice (some ⟨w0.heap.size, 0, none⟩) 0 0) 0 [] from Sl.new w0 23 6 #[] 0 0 (Nat.le_refl _) (Nat.zero_le _) (Nat.le_refl _)))
                  have V1 := hide (show ∀ g, (Value.slice (some ⟨w0.heap.size, 0, none⟩) 0 0).ownBlock = some g → w0.heap.size ≤ g from fun g hg => by
                    cases hg
                    have := b0.out.size
                    simpa only [World.size_alloc] using this)
                  go_simp
                  refine hK _ _ (fun _ _ => HQ.out _ b1.out) ?_
                  clear hK K
                  try simp only [Act.put, List.setIfInBounds_toArray, List.set_cons_zero, List.set_cons_succ]
                  refine wpAnyD_two (i := 8) (j := 10) (o := { dst := some 118, op := Op.call { callee := Callee.builtin Builtin.append, args := #[Operand.tmp 111, Operand.tmp 117], argTypes := #[41, 41] }, type := 41, pos := "ref.go:107", after := #[{ on := 1, ground := Ground.data }, { on := 7, ground := Ground.data }], guard := none }) (p := { dst := some 120, op := Op.buildSlice 41 1 #[(0, Operand.tmp 119)], type := 41, pos := "ref.go:107", after := #[{ on := 9, ground := Ground.data }], guard := none }) (by kernel_rfl) rfl rfl (fun K hK => ?_) (fun K hK => ?_)
                  · refine step_append_w (by rfl) (.tmp 111) (.tmp 117) 41 rfl 23 i0 _ 6 56 Try.underlying41 hi hz0 hz1 hz2 rfl (.slice (some ⟨w0.heap.size, 0, none⟩) 0 0) (0) ([]) rfl E1.out _ rfl k (rows Att.cells ((L.map (fun x : ByteArray × Att => x.2)).take k)) (HFT.out _ b1.out) (att_one _) (by unfold maxLen; omega) (by omega) ?_
                    intro v2 w2 hs2 ho2 hv2
                    rw [Nat.zero_add, List.nil_append] at hs2
                    have b2 := hide (b1.out.trans (ho2.below b1.out.size fun i hi => V1.out i hi))
                    have E2 := hide hs2
                    have V2 := hide (show ∀ g, v2.ownBlock = some g → w0.heap.size ≤ g from fun g hg => by
                      rcases hv2 with e | e
                      · exact V1.out g (by rw [← e]; exact hg)
                      · rw [e] at hg
                        cases hg
                        exact b1.out.size)
                    clear hs2 ho2 hv2
                    refine hK _ _ (fun _ _ => HQ.out _ b2.out) ?_
                    clear hK K
                    try simp only [Act.put, List.setIfInBounds_toArray, List.set_cons_zero, List.set_cons_succ]
                    refine wpAnyD_one (i := 10) (o := { dst := some 120, op := Op.buildSlice 41 1 #[(0, Operand.tmp 119)], type := 41, pos := "ref.go:107", after := #[{ on := 9, ground := Ground.data }], guard := none }) (by kernel_rfl) rfl (fun K hK => ?_)
                    have b3 := hide (b2.out.alloc b2.out.size (.cells #[.int .i64 a.fo, .int .i64 a.ba, .int .i64 a.bo, .int .i64 a.un, .int .i64 a.iv, .string a.inh] 23))
                    have RD3 := hide (show Rd (w2.alloc (.cells #[.int .i64 a.fo, .int .i64 a.ba, .int .i64 a.bo, .int .i64 a.un, .int .i64 a.iv, .string a.inh] 23)) (.slice (some ⟨w2.heap.size, 0, none⟩) 1 1) 6 1 (Att.cells a) by simpa only [World.size_alloc] using (show Rd (w2.alloc (.cells #[.int .i64 a.fo, .int .i64 a.ba, .int .i64 a.bo, .int .i64 a.un, .int .i64 a.iv, .string a.inh] 23)) (.slice (some ⟨w2.heap.size, 0, none⟩) 1 1) 6 1 (Att.cells a) from rd_elem w2 23 6 (Att.cells a) rfl))
                    have E3 := hide (E2.out.alloc (.cells #[.int .i64 a.fo, .int .i64 a.ba, .int .i64 a.bo, .int .i64 a.un, .int .i64 a.iv, .string a.inh] 23))
                    go_simp
                    refine hK _ _ (fun _ _ => HQ.out _ b3.out) ?_
                    clear hK K
                    try simp only [Act.put, List.setIfInBounds_toArray, List.set_cons_zero, List.set_cons_succ]
                    refine wpAnyD_one (i := 11) (o := { dst := some 121, op := Op.call { callee := Callee.builtin Builtin.append, args := #[Operand.tmp 118, Operand.tmp 120], argTypes := #[41, 41] }, type := 41, pos := "ref.go:107", after := #[{ on := 8, ground := Ground.data }, { on := 10, ground := Ground.data }, { on := 8, ground := Ground.chain }], guard := none }) (by kernel_rfl) rfl (fun K hK => ?_)
                    refine step_append_w (by rfl) (.tmp 118) (.tmp 120) 41 rfl 23 i0 _ 6 56 Try.underlying41 hi hz0 hz1 hz2 rfl v2 (k) (rows Att.cells ((L.map (fun x : ByteArray × Att => x.2)).take k)) rfl E3.out _ rfl 1 ((Att.cells a)) (RD3.out) (att_one1 a) (by unfold maxLen; omega) (by omega) ?_
                    intro v4 w4 hs4 ho4 hv4
                    have b4 := hide (b3.out.trans (ho4.below b3.out.size fun i hi => V2.out i hi))
                    have E4 := hide hs4
                    have V4 := hide (show ∀ g, v4.ownBlock = some g → w0.heap.size ≤ g from fun g hg => by
                      rcases hv4 with e | e
                      · exact V2.out g (by rw [← e]; exact hg)
                      · rw [e] at hg
                        cases hg
                        exact b3.out.size)
                    clear hs4 ho4 hv4
                    refine hK _ _ (fun _ _ => HQ.out _ b4.out) ?_
                    clear hK K
                    try simp only [Act.put, List.setIfInBounds_toArray, List.set_cons_zero, List.set_cons_succ]
                    refine wpAnyD_one (i := 18) (o := { dst := some 128, op := Op.call { callee := Callee.builtin Builtin.append, args := #[Operand.tmp 121, Operand.tmp 127], argTypes := #[41, 41] }, type := 41, pos := "ref.go:107", after := #[{ on := 11, ground := Ground.data }, { on := 17, ground := Ground.data }, { on := 11, ground := Ground.chain }], guard := none }) (by kernel_rfl) rfl (fun K hK => ?_)
                    refine step_append_w (by rfl) (.tmp 121) (.tmp 127) 41 rfl 23 i0 _ 6 56 Try.underlying41 hi hz0 hz1 hz2 rfl v4 (k + 1) (rows Att.cells ((L.map (fun x : ByteArray × Att => x.2)).take k) ++ (Att.cells a)) rfl E4.out _ rfl (n0 - k) (rows Att.cells ((L.map (fun x : ByteArray × Att => x.2)).drop k)) (HBK.out _ b4.out) (att_one _) (by unfold maxLen; omega) (by omega) ?_
                    intro v5 w5 hs5 ho5 hv5
                    have b5 := hide (b4.out.trans (ho5.below b4.out.size fun i hi => V4.out i hi))
                    have E5 := hide hs5
                    have V5 := hide (show ∀ g, v5.ownBlock = some g → w0.heap.size ≤ g from fun g hg => by
                      rcases hv5 with e | e
                      · exact V4.out g (by rw [← e]; exact hg)
                      · rw [e] at hg
                        cases hg
                        exact b4.out.size)
                    clear hs5 ho5 hv5
                    refine hK _ _ (fun _ _ => HQ.out _ b5.out) ?_
                    clear hK K
                    try simp only [Act.put, List.setIfInBounds_toArray, List.set_cons_zero, List.set_cons_succ]
                    obtain ⟨Ax, cx, hvx, _⟩ := id E5.out.form
                    subst hvx
                    refine wpAnyD_takeW (i := 19) (oi := { dst := some 129, op := Op.nilCheck (Operand.tmp 110), type := 0, pos := "ref.go:107", after := #[{ on := 0, ground := Ground.data }, { on := 0, ground := Ground.phase }, { on := 1, ground := Ground.phase }, { on := 2, ground := Ground.phase }, { on := 3, ground := Ground.phase }, { on := 4, ground := Ground.phase }, { on := 5, ground := Ground.phase }, { on := 6, ground := Ground.phase }, { on := 7, ground := Ground.phase }, { on := 8, ground := Ground.phase }, { on := 9, ground := Ground.phase }, { on := 10, ground := Ground.phase }, { on := 11, ground := Ground.phase }, { on := 12, ground := Ground.phase }, { on := 13, ground := Ground.phase }, { on := 14, ground := Ground.phase }, { on := 15, ground := Ground.phase }, { on := 16, ground := Ground.phase }, { on := 17, ground := Ground.phase }, { on := 18, ground := Ground.phase }], guard := none }) (v := ?_) rfl (by kernel_rfl) (by kernel_rfl) (by kernel_rfl) (fun _ _ _ h => h) (Or.inl ⟨by rfl, ?_⟩) ?_
                    rotate_left
                    · intro w hSw
                      clear hSw
                      go_simp
                      all_goals with_reducible rfl
                    simp only [Act.put, List.setIfInBounds_toArray, List.set_cons_zero, List.set_cons_succ]
                    refine wpAnyD_takeW (i := 20) (oi := { dst := some 130, op := Op.fieldAddr 43 (Operand.tmp 129) 1, type := 0, pos := "ref.go:107", after := #[{ on := 19, ground := Ground.data }, { on := 0, ground := Ground.phase }, { on := 1, ground := Ground.phase }, { on := 2, ground := Ground.phase }, { on := 3, ground := Ground.phase }, { on := 4, ground := Ground.phase }, { on := 5, ground := Ground.phase }, { on := 6, ground := Ground.phase }, { on := 7, ground := Ground.phase }, { on := 8, ground := Ground.phase }, { on := 9, ground := Ground.phase }, { on := 10, ground := Ground.phase }, { on := 11, ground := Ground.phase }, { on := 12, ground := Ground.phase }, { on := 13, ground := Ground.phase }, { on := 14, ground := Ground.phase }, { on := 15, ground := Ground.phase }, { on := 16, ground := Ground.phase }, { on := 17, ground := Ground.phase }, { on := 18, ground := Ground.phase }], guard := none }) (v := ?_) rfl (by kernel_rfl) (by kernel_rfl) (by kernel_rfl) (fun _ _ _ h => h) (Or.inl ⟨by rfl, ?_⟩) ?_
                    rotate_left
                    · intro w hSw
                      clear hSw
                      go_simp
                      all_goals with_reducible rfl
                    simp only [Act.put, List.setIfInBounds_toArray, List.set_cons_zero, List.set_cons_succ]
                    have fz : w5.frozen? ⟨rb, 1, none⟩ = false := (H5.out.below b5.out).blk.frozen 1
                    have hS := HQ.out _ b5.out
                    refine wpAnyD_one (i := 21) (o := { dst := none, op := Op.store 41 (Operand.tmp 130) (Operand.tmp 128), type := 0, pos := "ref.go:107", after := #[{ on := 20, ground := Ground.data }, { on := 18, ground := Ground.data }, { on := 18, ground := Ground.chain }, { on := 0, ground := Ground.phase }, { on := 1, ground := Ground.phase }, { on := 2, ground := Ground.phase }, { on := 3, ground := Ground.phase }, { on := 4, ground := Ground.phase }, { on := 5, ground := Ground.phase }, { on := 6, ground := Ground.phase }, { on := 7, ground := Ground.phase }, { on := 8, ground := Ground.phase }, { on := 9, ground := Ground.phase }, { on := 10, ground := Ground.phase }, { on := 11, ground := Ground.phase }, { on := 12, ground := Ground.phase }, { on := 13, ground := Ground.phase }, { on := 14, ground := Ground.phase }, { on := 15, ground := Ground.phase }, { on := 16, ground := Ground.phase }, { on := 17, ground := Ground.phase }, { on := 18, ground := Ground.phase }], guard := none }) (by kernel_rfl) rfl (fun K hK => ?_)
                    go_simp
                    refine hK _ _ (fun h => by cases h) ?_
                    clear hK K
                    try simp only [Act.put, List.setIfInBounds_toArray, List.set_cons_zero, List.set_cons_succ]
                    refine wpAnyD_done (by kernel_rfl) ?_ _
                    go_wp2
                    all_goals go_ret
                    all_goals exact ⟨by rw [HE0.out]; rfl, _, _, L.take k ++ (n, a) :: L.drop k, (H5.out.setA b5.out (HFIN.out _ _ E5.out) V5.out).unbox, .inr (.inr ⟨HE0.out, HNO.out, k, by rw [HL.out]; exact HK.out.1, HK.out.2.1, HK.out.2.2, rfl⟩)⟩
                  · have b2 := hide (b1.out.alloc b1.out.size (.cells #[.int .i64 a.fo, .int .i64 a.ba, .int .i64 a.bo, .int .i64 a.un, .int .i64 a.iv, .string a.inh] 23))
                    have RD2 := hide (show Rd ((w0.alloc (.cells #[] 23)).alloc (.cells #[.int .i64 a.fo, .int .i64 a.ba, .int .i64 a.bo, .int .i64 a.un, .int .i64 a.iv, .string a.inh] 23)) (.slice (some ⟨w0.heap.size + 1, 0, none⟩) 1 1) 6 1 (Att.cells a) by simpa only [World.size_alloc] using (show Rd ((w0.alloc (.cells #[] 23)).alloc (.cells #[.int .i64 a.fo, .int .i64 a.ba, .int .i64 a.bo, .int .i64 a.un, .int .i64 a.iv, .string a.inh] 23)) (.slice (some ⟨(w0.alloc (.cells #[] 23)).heap.size, 0, none⟩) 1 1) 6 1 (Att.cells a) from rd_elem (w0.alloc (.cells #[] 23)) 23 6 (Att.cells a) rfl))
                    have E2 := hide (E1.out.alloc (.cells #[.int .i64 a.fo, .int .i64 a.ba, .int .i64 a.bo, .int .i64 a.un, .int .i64 a.iv, .string a.inh] 23))
                    go_simp
                    refine hK _ _ (fun _ _ => HQ.out _ b2.out) ?_
                    clear hK K
                    try simp only [Act.put, List.setIfInBounds_toArray, List.set_cons_zero, List.set_cons_succ]
                    refine wpAnyD_one (i := 8) (o := { dst := some 118, op := Op.call { callee := Callee.builtin Builtin.append, args := #[Operand.tmp 111, Operand.tmp 117], argTypes := #[41, 41] }, type := 41, pos := "ref.go:107", after := #[{ on := 1, ground := Ground.data }, { on := 7, ground := Ground.data }], guard := none }) (by kernel_rfl) rfl (fun K hK => ?_)
                    refine step_append_w (by rfl) (.tmp 111) (.tmp 117) 41 rfl 23 i0 _ 6 56 Try.underlying41 hi hz0 hz1 hz2 rfl (.slice (some ⟨w0.heap.size, 0, none⟩) 0 0) (0) ([]) rfl E2.out _ rfl k (rows Att.cells ((L.map (fun x : ByteArray × Att => x.2)).take k)) (HFT.out _ b2.out) (att_one _) (by unfold maxLen; omega) (by omega) ?_
                    intro v3 w3 hs3 ho3 hv3
                    rw [Nat.zero_add, List.nil_append] at hs3
                    have b3 := hide (b2.out.trans (ho3.below b2.out.size fun i hi => V1.out i hi))
                    have E3 := hide hs3
                    have V3 := hide (show ∀ g, v3.ownBlock = some g → w0.heap.size ≤ g from fun g hg => by
                      rcases hv3 with e | e
                      · exact V1.out g (by rw [← e]; exact hg)
                      · rw [e] at hg
                        cases hg
                        exact b2.out.size)
                    have RD3 := hide (RD2.out.only ho3 (fun g hg hF => by
                      cases hg
                      injection hF with hF
                      have : w0.heap.size = w0.heap.size + 1 := hF
                      omega))
                    clear hs3 ho3 hv3
                    refine hK _ _ (fun _ _ => HQ.out _ b3.out) ?_
                    clear hK K
                    try simp only [Act.put, List.setIfInBounds_toArray, List.set_cons_zero, List.set_cons_succ]
                    refine wpAnyD_one (i := 11) (o := { dst := some 121, op := Op.call { callee := Callee.builtin Builtin.append, args := #[Operand.tmp 118, Operand.tmp 120], argTypes := #[41, 41] }, type := 41, pos := "ref.go:107", after := #[{ on := 8, ground := Ground.data }, { on := 10, ground := Ground.data }, { on := 8, ground := Ground.chain }], guard := none }) (by kernel_rfl) rfl (fun K hK => ?_)
                    refine step_append_w (by rfl) (.tmp 118) (.tmp 120) 41 rfl 23 i0 _ 6 56 Try.underlying41 hi hz0 hz1 hz2 rfl v3 (k) (rows Att.cells ((L.map (fun x : ByteArray × Att => x.2)).take k)) rfl E3.out _ rfl 1 ((Att.cells a)) (RD3.out) (att_one1 a) (by unfold maxLen; omega) (by omega) ?_
                    intro v4 w4 hs4 ho4 hv4
                    have b4 := hide (b3.out.trans (ho4.below b3.out.size fun i hi => V3.out i hi))
                    have E4 := hide hs4
                    have V4 := hide (show ∀ g, v4.ownBlock = some g → w0.heap.size ≤ g from fun g hg => by
                      rcases hv4 with e | e
                      · exact V3.out g (by rw [← e]; exact hg)
                      · rw [e] at hg
                        cases hg
                        exact b3.out.size)
                    clear hs4 ho4 hv4
                    refine hK _ _ (fun _ _ => HQ.out _ b4.out) ?_
                    clear hK K
                    try simp only [Act.put, List.setIfInBounds_toArray, List.set_cons_zero, List.set_cons_succ]
                    refine wpAnyD_one (i := 18) (o := { dst := some 128, op := Op.call { callee := Callee.builtin Builtin.append, args := #[Operand.tmp 121, Operand.tmp 127], argTypes := #[41, 41] }, type := 41, pos := "ref.go:107", after := #[{ on := 11, ground := Ground.data }, { on := 17, ground := Ground.data }, { on := 11, ground := Ground.chain }], guard := none }) (by kernel_rfl) rfl (fun K hK => ?_)
                    refine step_append_w (by rfl) (.tmp 121) (.tmp 127) 41 rfl 23 i0 _ 6 56 Try.underlying41 hi hz0 hz1 hz2 rfl v4 (k + 1) (rows Att.cells ((L.map (fun x : ByteArray × Att => x.2)).take k) ++ (Att.cells a)) rfl E4.out _ rfl (n0 - k) (rows Att.cells ((L.map (fun x : ByteArray × Att => x.2)).drop k)) (HBK.out _ b4.out) (att_one _) (by unfold maxLen; omega) (by omega) ?_
                    intro v5 w5 hs5 ho5 hv5
                    have b5 := hide (b4.out.trans (ho5.below b4.out.size fun i hi => V4.out i hi))
                    have E5 := hide hs5
                    have V5 := hide (show ∀ g, v5.ownBlock = some g → w0.heap.size ≤ g from fun g hg => by
                      rcases hv5 with e | e
                      · exact V4.out g (by rw [← e]; exact hg)
                      · rw [e] at hg
                        cases hg
                        exact b4.out.size)
                    clear hs5 ho5 hv5
                    refine hK _ _ (fun _ _ => HQ.out _ b5.out) ?_
                    clear hK K
                    try simp only [Act.put, List.setIfInBounds_toArray, List.set_cons_zero, List.set_cons_succ]
                    obtain ⟨Ax, cx, hvx, _⟩ := id E5.out.form
                    subst hvx
                    refine wpAnyD_takeW (i := 19) (oi := { dst := some 129, op := Op.nilCheck (Operand.tmp 110), type := 0, pos := "ref.go:107", after := #[{ on := 0, ground := Ground.data }, { on := 0, ground := Ground.phase }, { on := 1, ground := Ground.phase }, { on := 2, ground := Ground.phase }, { on := 3, ground := Ground.phase }, { on := 4, ground := Ground.phase }, { on := 5, ground := Ground.phase }, { on := 6, ground := Ground.phase }, { on := 7, ground := Ground.phase }, { on := 8, ground := Ground.phase }, { on := 9, ground := Ground.phase }, { on := 10, ground := Ground.phase }, { on := 11, ground := Ground.phase }, { on := 12, ground := Ground.phase }, { on := 13, ground := Ground.phase }, { on := 14, ground := Ground.phase }, { on := 15, ground := Ground.phase }, { on := 16, ground := Ground.phase }, { on := 17, ground := Ground.phase }, { on := 18, ground := Ground.phase }], guard := none }) (v := ?_) rfl (by kernel_rfl) (by kernel_rfl) (by kernel_rfl) (fun _ _ _ h => h) (Or.inl ⟨by rfl, ?_⟩) ?_
                    rotate_left
                    · intro w hSw
                      clear hSw
                      go_simp
                      all_goals with_reducible rfl
                    simp only [Act.put, List.setIfInBounds_toArray, List.set_cons_zero, List.set_cons_succ]
                    refine wpAnyD_takeW (i := 20) (oi := { dst := some 130, op := Op.fieldAddr 43 (Operand.tmp 129) 1, type := 0, pos := "ref.go:107", after := #[{ on := 19, ground := Ground.data }, { on := 0, ground := Ground.phase }, { on := 1, ground := Ground.phase }, { on := 2, ground := Ground.phase }, { on := 3, ground := Ground.phase }, { on := 4, ground := Ground.phase }, { on := 5, ground := Ground.phase }, { on := 6, ground := Ground.phase }, { on := 7, ground := Ground.phase }, { on := 8, ground := Ground.phase }, { on := 9, ground := Ground.phase }, { on := 10, ground := Ground.phase }, { on := 11, ground := Ground.phase }, { on := 12, ground := Ground.phase }, { on := 13, ground := Ground.phase }, { on := 14, ground := Ground.phase }, { on := 15, ground := Ground.phase }, { on := 16, ground := Ground.phase }, { on := 17, ground := Ground.phase }, { on := 18, ground := Ground.phase }], guard := none }) (v := ?_) rfl (by kernel_rfl) (by kernel_rfl) (by kernel_rfl) (fun _ _ _ h => h) (Or.inl ⟨by rfl, ?_⟩) ?_
                    rotate_left
                    · intro w hSw
                      clear hSw
                      go_simp
                      all_goals with_reducible rfl
                    simp only [Act.put, List.setIfInBounds_toArray, List.set_cons_zero, List.set_cons_succ]
                    have fz : w5.frozen? ⟨rb, 1, none⟩ = false := (H5.out.below b5.out).blk.frozen 1
                    have hS := HQ.out _ b5.out
                    refine wpAnyD_one (i := 21) (o := { dst := none, op := Op.store 41 (Operand.tmp 130) (Operand.tmp 128), type := 0, pos := "ref.go:107", after := #[{ on := 20, ground := Ground.data }, { on := 18, ground := Ground.data }, { on := 18, ground := Ground.chain }, { on := 0, ground := Ground.phase }, { on := 1, ground := Ground.phase }, { on := 2, ground := Ground.phase }, { on := 3, ground := Ground.phase }, { on := 4, ground := Ground.phase }, { on := 5, ground := Ground.phase }, { on := 6, ground := Ground.phase }, { on := 7, ground := Ground.phase }, { on := 8, ground := Ground.phase }, { on := 9, ground := Ground.phase }, { on := 10, ground := Ground.phase }, { on := 11, ground := Ground.phase }, { on := 12, ground := Ground.phase }, { on := 13, ground := Ground.phase }, { on := 14, ground := Ground.phase }, { on := 15, ground := Ground.phase }, { on := 16, ground := Ground.phase }, { on := 17, ground := Ground.phase }, { on := 18, ground := Ground.phase }], guard := none }) (by kernel_rfl) rfl (fun K hK => ?_)
                    go_simp
                    refine hK _ _ (fun h => by cases h) ?_
                    clear hK K
                    try simp only [Act.put, List.setIfInBounds_toArray, List.set_cons_zero, List.set_cons_succ]
                    refine wpAnyD_done (by kernel_rfl) ?_ _
                    go_wp2
                    all_goals go_ret
                    all_goals exact ⟨by rw [HE0.out]; rfl, _, _, L.take k ++ (n, a) :: L.drop k, (H5.out.setA b5.out (HFIN.out _ _ E5.out) V5.out).unbox, .inr (.inr ⟨HE0.out, HNO.out, k, by rw [HL.out]; exact HK.out.1, HK.out.2.1, HK.out.2.2, rfl⟩)⟩
                · have b1 := hide (b0.out.alloc b0.out.size (.cells #[.int .i64 a.fo, .int .i64 a.ba, .int .i64 a.bo, .int .i64 a.un, .int .i64 a.iv, .string a.inh] 23))
                  have RD1 := hide (show Rd (w0.alloc (.cells #[.int .i64 a.fo, .int .i64 a.ba, .int .i64 a.bo, .int .i64 a.un, .int .i64 a.iv, .string a.inh] 23)) (.slice (some ⟨w0.heap.size, 0, none⟩) 1 1) 6 1 (Att.cells a) by simpa only [World.size_alloc] using (show Rd (w0.alloc (.cells #[.int .i64 a.fo, .int .i64 a.ba, .int .i64 a.bo, .int .i64 a.un, .int .i64 a.iv, .string a.inh] 23)) (.slice (some ⟨w0.heap.size, 0, none⟩) 1 1) 6 1 (Att.cells a) from rd_elem w0 23 6 (Att.cells a) rfl))
                  go_simp
                  refine hK _ _ (fun _ _ => HQ.out _ b1.out) ?_
                  clear hK K
                  try simp only [Act.put, List.setIfInBounds_toArray, List.set_cons_zero, List.set_cons_succ]
                  refine wpAnyD_one (i := 1) (o := { dst := some 111, op := Op.buildSlice 41 0 #[], type := 41, pos := "ref.go:107", after := #[], guard := none }) (by kernel_rfl) rfl (fun K hK => ?_)
                  have b2 := hide (b1.out.alloc b1.out.size (.cells #[] 23))
                  have E2 := hide (show Sl ((w0.alloc (.cells #[.int .i64 a.fo, .int .i64 a.ba, .int .i64 a.bo, .int .i64 a.un, .int .i64 a.iv, .string a.inh] 23)).alloc (.cells #[] 23)) 23 6 (.slice (some ⟨w0.heap.size + 1, 0, none⟩) 0 0) 0 [] by simpa only [World.size_alloc] using (show Sl ((w0.alloc (.cells #[.int .i64 a.fo, .int .i64 a.ba, .int .i64 a.bo, .int .i64 a.un, .int .i64 a.iv, .string a.inh] 23)).alloc (.cells #[] 23)) 23 6 (.slice (some ⟨(w0.alloc (.cells #[.int .i64 a.fo, .int .i64 a.ba, .int .i64 a.bo, .int .i64 a.un, .int .i64 a.iv, .string a.inh] 23)).heap.size, 0, none⟩) 0 0) 0 [] from Sl.new (w0.alloc (.cells #[.int .i64 a.fo, .int .i64 a.ba, .int .i64 a.bo, .int .i64 a.un, .int .i64 a.iv, .string a.inh] 23)) 23 6 #[] 0 0 (Nat.le_refl _) (Nat.zero_le _) (Nat.le_refl _)))
                  have V2 := hide (show ∀ g, (Value.slice (some ⟨w0.heap.size + 1, 0, none⟩) 0 0).ownBlock = some g → w0.heap.size ≤ g from fun g hg => by
                    cases hg
                    have := b1.out.size
                    simpa only [World.size_alloc] using this)
                  have RD2 := hide (RD1.out.belowF ((Below.refl _ _).alloc (Nat.le_refl _) (.cells #[] 23)))
                  go_simp
                  refine hK _ _ (fun _ _ => HQ.out _ b2.out) ?_
                  clear hK K
                  try simp only [Act.put, List.setIfInBounds_toArray, List.set_cons_zero, List.set_cons_succ]
                  refine wpAnyD_one (i := 8) (o := { dst := some 118, op := Op.call { callee := Callee.builtin Builtin.append, args := #[Operand.tmp 111, Operand.tmp 117], argTypes := #[41, 41] }, type := 41, pos := "ref.go:107", after := #[{ on := 1, ground := Ground.data }, { on := 7, ground := Ground.data }], guard := none }) (by kernel_rfl) rfl (fun K hK => ?_)
                  refine step_append_w (by rfl) (.tmp 111) (.tmp 117) 41 rfl 23 i0 _ 6 56 Try.underlying41 hi hz0 hz1 hz2 rfl (.slice (some ⟨w0.heap.size + 1, 0, none⟩) 0 0) (0) ([]) rfl E2.out _ rfl k (rows Att.cells ((L.map (fun x : ByteArray × Att => x.2)).take k)) (HFT.out _ b2.out) (att_one _) (by unfold maxLen; omega) (by omega) ?_
                  intro v3 w3 hs3 ho3 hv3
                  rw [Nat.zero_add, List.nil_append] at hs3
                  have b3 := hide (b2.out.trans (ho3.below b2.out.size fun i hi => V2.out i hi))
                  have E3 := hide hs3
                  have V3 := hide (show ∀ g, v3.ownBlock = some g → w0.heap.size ≤ g from fun g hg => by
                    rcases hv3 with e | e
                    · exact V2.out g (by rw [← e]; exact hg)
                    · rw [e] at hg
                      cases hg
                      exact b2.out.size)
                  have RD3 := hide (RD2.out.only ho3 (fun g hg hF => by
                    cases hg
                    injection hF with hF
                    have : w0.heap.size + 1 = w0.heap.size := hF
                    omega))
                  clear hs3 ho3 hv3
                  refine hK _ _ (fun _ _ => HQ.out _ b3.out) ?_
                  clear hK K
                  try simp only [Act.put, List.setIfInBounds_toArray, List.set_cons_zero, List.set_cons_succ]
                  refine wpAnyD_one (i := 11) (o := { dst := some 121, op := Op.call { callee := Callee.builtin Builtin.append, args := #[Operand.tmp 118, Operand.tmp 120], argTypes := #[41, 41] }, type := 41, pos := "ref.go:107", after := #[{ on := 8, ground := Ground.data }, { on := 10, ground := Ground.data }, { on := 8, ground := Ground.chain }], guard := none }) (by kernel_rfl) rfl (fun K hK => ?_)
                  refine step_append_w (by rfl) (.tmp 118) (.tmp 120) 41 rfl 23 i0 _ 6 56 Try.underlying41 hi hz0 hz1 hz2 rfl v3 (k) (rows Att.cells ((L.map (fun x : ByteArray × Att => x.2)).take k)) rfl E3.out _ rfl 1 ((Att.cells a)) (RD3.out) (att_one1 a) (by unfold maxLen; omega) (by omega) ?_
                  intro v4 w4 hs4 ho4 hv4
                  have b4 := hide (b3.out.trans (ho4.below b3.out.size fun i hi => V3.out i hi))
                  have E4 := hide hs4
                  have V4 := hide (show ∀ g, v4.ownBlock = some g → w0.heap.size ≤ g from fun g hg => by
                    rcases hv4 with e | e
                    · exact V3.out g (by rw [← e]; exact hg)
                    · rw [e] at hg
                      cases hg
                      exact b3.out.size)
                  clear hs4 ho4 hv4
                  refine hK _ _ (fun _ _ => HQ.out _ b4.out) ?_
                  clear hK K
                  try simp only [Act.put, List.setIfInBounds_toArray, List.set_cons_zero, List.set_cons_succ]
                  refine wpAnyD_one (i := 18) (o := { dst := some 128, op := Op.call { callee := Callee.builtin Builtin.append, args := #[Operand.tmp 121, Operand.tmp 127], argTypes := #[41, 41] }, type := 41, pos := "ref.go:107", after := #[{ on := 11, ground := Ground.data }, { on := 17, ground := Ground.data }, { on := 11, ground := Ground.chain }], guard := none }) (by kernel_rfl) rfl (fun K hK => ?_)
                  refine step_append_w (by rfl) (.tmp 121) (.tmp 127) 41 rfl 23 i0 _ 6 56 Try.underlying41 hi hz0 hz1 hz2 rfl v4 (k + 1) (rows Att.cells ((L.map (fun x : ByteArray × Att => x.2)).take k) ++ (Att.cells a)) rfl E4.out _ rfl (n0 - k) (rows Att.cells ((L.map (fun x : ByteArray × Att => x.2)).drop k)) (HBK.out _ b4.out) (att_one _) (by unfold maxLen; omega) (by omega) ?_
                  intro v5 w5 hs5 ho5 hv5
                  have b5 := hide (b4.out.trans (ho5.below b4.out.size fun i hi => V4.out i hi))
                  have E5 := hide hs5
                  have V5 := hide (show ∀ g, v5.ownBlock = some g → w0.heap.size ≤ g from fun g hg => by
                    rcases hv5 with e | e
                    · exact V4.out g (by rw [← e]; exact hg)
                    · rw [e] at hg
                      cases hg
                      exact b4.out.size)
                  clear hs5 ho5 hv5
                  refine hK _ _ (fun _ _ => HQ.out _ b5.out) ?_
                  clear hK K
                  try simp only [Act.put, List.setIfInBounds_toArray, List.set_cons_zero, List.set_cons_succ]
                  obtain ⟨Ax, cx, hvx, _⟩ := id E5.out.form
                  subst hvx
                  refine wpAnyD_takeW (i := 19) (oi := { dst := some 129, op := Op.nilCheck (Operand.tmp 110), type := 0, pos := "ref.go:107", after := #[{ on := 0, ground := Ground.data }, { on := 0, ground := Ground.phase }, { on := 1, ground := Ground.phase }, { on := 2, ground := Ground.phase }, { on := 3, ground := Ground.phase }, { on := 4, ground := Ground.phase }, { on := 5, ground := Ground.phase }, { on := 6, ground := Ground.phase }, { on := 7, ground := Ground.phase }, { on := 8, ground := Ground.phase }, { on := 9, ground := Ground.phase }, { on := 10, ground := Ground.phase }, { on := 11, ground := Ground.phase }, { on := 12, ground := Ground.phase }, { on := 13, ground := Ground.phase }, { on := 14, ground := Ground.phase }, { on := 15, ground := Ground.phase }, { on := 16, ground := Ground.phase }, { on := 17, ground := Ground.phase }, { on := 18, ground := Ground.phase }], guard := none }) (v := ?_) rfl (by kernel_rfl) (by kernel_rfl) (by kernel_rfl) (fun _ _ _ h => h) (Or.inl ⟨by rfl, ?_⟩) ?_
                  rotate_left
                  · intro w hSw
                    clear hSw
                    go_simp
                    all_goals with_reducible rfl
                  simp only [Act.put, List.setIfInBounds_toArray, List.set_cons_zero, List.set_cons_succ]
                  refine wpAnyD_takeW (i := 20) (oi := { dst := some 130, op := Op.fieldAddr 43 (Operand.tmp 129) 1, type := 0, pos := "ref.go:107", after := #[{ on := 19, ground := Ground.data }, { on := 0, ground := Ground.phase }, { on := 1, ground := Ground.phase }, { on := 2, ground := Ground.phase }, { on := 3, ground := Ground.phase }, { on := 4, ground := Ground.phase }, { on := 5, ground := Ground.phase }, { on := 6, ground := Ground.phase }, { on := 7, ground := Ground.phase }, { on := 8, ground := Ground.phase }, { on := 9, ground := Ground.phase }, { on := 10, ground := Ground.phase }, { on := 11, ground := Ground.phase }, { on := 12, ground := Ground.phase }, { on := 13, ground := Ground.phase }, { on := 14, ground := Ground.phase }, { on := 15, ground := Ground.phase }, { on := 16, ground := Ground.phase }, { on := 17, ground := Ground.phase }, { on := 18, ground := Ground.phase }], guard := none }) (v := ?_) rfl (by kernel_rfl) (by kernel_rfl) (by kernel_rfl) (fun _ _ _ h => h) (Or.inl ⟨by rfl, ?_⟩) ?_
                  rotate_left
                  · intro w hSw
                    clear hSw
                    go_simp
                    all_goals with_reducible rfl
                  simp only [Act.put, List.setIfInBounds_toArray, List.set_cons_zero, List.set_cons_succ]
                  have fz : w5.frozen? ⟨rb, 1, none⟩ = false := (H5.out.below b5.out).blk.frozen 1
                  have hS := HQ.out _ b5.out
                  refine wpAnyD_one (i := 21) (o := { dst := none, op := Op.store 41 (Operand.tmp 130) (Operand.tmp 128), type := 0, pos := "ref.go:107", after := #[{ on := 20, ground := Ground.data }, { on := 18, ground := Ground.data }, { on := 18, ground := Ground.chain }, { on := 0, ground := Ground.phase }, { on := 1, ground := Ground.phase }, { on := 2, ground := Ground.phase }, { on := 3, ground := Ground.phase }, { on := 4, ground := Ground.phase }, { on := 5, ground := Ground.phase }, { on := 6, ground := Ground.phase }, { on := 7, ground := Ground.phase }, { on := 8, ground := Ground.phase }, { on := 9, ground := Ground.phase }, { on := 10, ground := Ground.phase }, { on := 11, ground := Ground.phase }, { on := 12, ground := Ground.phase }, { on := 13, ground := Ground.phase }, { on := 14, ground := Ground.phase }, { on := 15, ground := Ground.phase }, { on := 16, ground := Ground.phase }, { on := 17, ground := Ground.phase }, { on := 18, ground := Ground.phase }], guard := none }) (by kernel_rfl) rfl (fun K hK => ?_)
                  go_simp
                  refine hK _ _ (fun h => by cases h) ?_
                  clear hK K
                  try simp only [Act.put, List.setIfInBounds_toArray, List.set_cons_zero, List.set_cons_succ]
                  refine wpAnyD_done (by kernel_rfl) ?_ _
                  go_wp2
                  all_goals go_ret
                  all_goals exact ⟨by rw [HE0.out]; rfl, _, _, L.take k ++ (n, a) :: L.drop k, (H5.out.setA b5.out (HFIN.out _ _ E5.out) V5.out).unbox, .inr (.inr ⟨HE0.out, HNO.out, k, by rw [HL.out]; exact HK.out.1, HK.out.2.1, HK.out.2.2, rfl⟩)⟩
      · have z1 := ne_empty hi
        have z2 : (a.inh.toList == []) = false := by
          cases hl : a.inh.toList with
          | nil => rw [hl] at z1; cases z1
          | cons _ _ => rfl
        have HI := hide hi
        clear hi
        go_wp2_with fail
        refine Calls.mono (HNI.out _) ?_
        rintro r w5 ⟨rfl, rfl⟩
        cases hvi : validF a.inh with
        | false =>
          have HE := hide (show defE L n a = 17 by
            unfold defE defErr
            rw [if_neg (by rw [HV.out]; decide), if_neg (by rw [HW.out]; decide), if_neg HI.out, if_pos hvi])
          clear hvi
          go_wp2
          go_ret
          exact ⟨by rw [HE.out]; rfl, _, _, L, H4.out.unbox, .inl ⟨by rw [HE.out]; decide, rfl⟩⟩
        | true =>
          have HVI := hide hvi
          clear hvi
          rcases plc_look L a.inh with ⟨j, b, h1, h2, h3⟩ | ⟨h1, h2⟩
          · have HPI := hide (HPL.out _ _ H4.out a.inh)
            rw [plcZ_some h1] at HPI
            have q3 : decide ((j : Int) < 0) = false := decide_eq_false (by omega)
            obtain ⟨xs, hx⟩ := HG.out.ch a.inh (by rw [h3]; rfl)
            have HRE := hide (reaches_any HG.out H4.out.blk (by have := H4.out.slN.rd; rwa [List.length_map, HL.out] at this) (by have := H4.out.slA.rd; rwa [List.length_map, HL.out] at this) HL.out a.inh n (by rw [h3]; rfl) hx)
            have HX := hide hx
            have HLI := hide (show ¬ look L a.inh = none by rw [h3]; simp)
            clear h1 h2 h3 hx
            go_wp2_with fail
            refine Calls.mono HPI.out ?_
            rintro r w6 ⟨rfl, rfl⟩
            go_wp2_with fail
            refine Calls.mono HRE.out ?_
            rintro r w7 ⟨rfl, rfl⟩
            cases hin : xs.any fun y => y == n with
            | true =>
              have HE := hide (show defE L n a = 16 by
                unfold defE defErr
                rw [chainOf_eq HX.out, if_neg (by rw [HV.out]; decide), if_neg (by rw [HW.out]; decide), if_neg HI.out, if_neg (by rw [HVI.out]; decide), if_neg HLI.out, if_pos hin])
              clear hin
              go_wp2
              go_ret
              exact ⟨by rw [HE.out]; rfl, _, _, L, H4.out.unbox, .inl ⟨by rw [HE.out]; decide, rfl⟩⟩
            | false =>
              have HE := hide (show defE L n a = if look L n = none ∧ 256 ≤ L.length then 7 else 0 by
                unfold defE defErr
                rw [chainOf_eq HX.out, if_neg (by rw [HV.out]; decide), if_neg (by rw [HW.out]; decide), if_neg HI.out, if_neg (by rw [HVI.out]; decide), if_neg HLI.out, if_neg (by rw [hin]; decide)])
              clear hin
              rcases plc_look L n with ⟨i, b, h1, h2, h3⟩ | ⟨h1, h2⟩
              · rw [plcZ_some h1]
                have hil : i < n0 := by
                  have := (List.getElem?_eq_some_iff.1 h2).1
                  rw [HL.out] at this
                  exact this
                have hx2 : (L.map (·.2))[i]? = some b := by rw [List.getElem?_map, h2]; rfl
                obtain ⟨g, off, rfl, p0, p1, p2, p3, p4, p5⟩ := rd_att (by have := H4.out.slA.rd; rwa [List.length_map, HL.out] at this) hx2
                have fz : ∀ j, w4.frozen? ⟨g, j, none⟩ = false := by
                  obtain ⟨g', off', c', e, _, _, _, hf, _⟩ := H4.out.slA.at_ (by rw [List.length_map, HL.out]; omega)
                  injection e with e
                  injection e with e
                  injection e with e
                  subst e
                  exact hf
                have f0 := fz (off + i * 6)
                have f1 := fz (off + i * 6 + 1)
                have f2 := fz (off + i * 6 + 2)
                have f3 := fz (off + i * 6 + 3)
                have f4 := fz (off + i * 6 + 4)
                have f5 := fz (off + i * 6 + 5)
                have c1 : w4.cell? ⟨rb, 1, none⟩ = some (.slice (some ⟨g, off, none⟩) n0 d) := by rw [H4.out.blk.cell]; rfl
                have q1 : decide (i < n0) = true := by simpa using hil
                have q2 : decide ((i : Int) < (n0 : Int)) = true := decide_eq_true (by omega)
                have q3 : decide ((0 : Int) ≤ (i : Int)) = true := decide_eq_true (by omega)
                have HE0 := hide (show defE L n a = 0 by rw [HE.out, if_neg (fun hc => by rw [h3] at hc; cases hc.1)])
                have HP := hide (putF_at (a := a) h1 h2)
                have HS := hide (show (look L n).isSome = true by rw [h3]; rfl)
                have H5 := hide H4.out.unbox
                have H6 := hide (H5.out.turnA (av' := (L.map (·.2)).set i a) (by simp) ((six_only_row _ g (off + i * 6) a).mono fun i _ hi => by rw [hi]; rfl) (by
                  have h0 := H5.out.slA
                  rw [List.length_map, HL.out] at h0 ⊢
                  exact six_sl a h0 hx2))
                have H7 := hide (H6.out.below (Below.refl _ _).drew)
                clear h1 h2 h3 hx2 fz
                go_wp2_with fail
                go_region
                all_goals
                  go_wp2
                  go_ret
                  refine ⟨by rw [HE0.out]; rfl, .slice A n0 c, .slice (some ⟨g, off, none⟩) n0 d, putF L n a, ?_, .inr (.inl ⟨HE0.out, HS.out, rfl⟩)⟩
                  rw [HP.out.1, HP.out.2]
                  exact H7.out
              · rw [plcZ_none h1]
                have c0 : w4.cell? ⟨rb, 0, none⟩ = some (.slice A n0 c) := by rw [H4.out.blk.cell]; rfl
                by_cases hfull : 256 ≤ n0
                · have q1 : decide (256 ≤ n0) = true := by simpa using hfull
                  have q2 : decide ((256 : Int) ≤ (n0 : Int)) = true := decide_eq_true (by omega)
                  have HE0 := hide (show defE L n a = 7 by rw [HE.out, if_pos ⟨h2, by rw [HL.out]; exact hfull⟩])
                  clear h1 h2
                  go_wp2
                  go_ret
                  exact ⟨by rw [HE0.out]; rfl, _, _, L, H4.out.unbox, .inl ⟨by rw [HE0.out]; decide, rfl⟩⟩
                · have q1 : decide (256 ≤ n0) = false := by simpa using hfull
                  have q2 : decide ((256 : Int) ≤ (n0 : Int)) = false := decide_eq_false (by omega)
                  have HE0 := hide (show defE L n a = 0 by rw [HE.out, if_neg (fun hc => hfull (by rw [HL.out] at hc; exact hc.2))])
                  have HNO := hide h2
                  clear h1 h2
                  have HST := hide (show ∀ (j : Nat) (y : ByteArray × Att), L[j]? = some y → ∃ g off, A = some ⟨g, off, none⟩ ∧ w4.cell? ⟨g, off + j, none⟩ = some (.string y.1) from fun j y hy => by
                    have := H4.out.slN.rd
                    rw [List.length_map, HL.out] at this
                    exact rd_str this (by rw [List.getElem?_map, hy]; rfl))
                  go_upto_block 1 with fail
                  go_cut [8] (fun t wx => ∃ k : Nat, t = .int .i64 (k : Int) ∧ k ≤ n0 ∧ (∀ (i : Nat) (x : ByteArray × Att), i < k → L[i]? = some x → Op.bytesLess x.1.toList n.toList = true) ∧ (∀ x, L[k]? = some x → Op.bytesLess x.1.toList n.toList = false) ∧ wx = w4)
                  case first =>
                    go_wp2_with fail
                    go_loopw [8] (fun t wr => ∃ k : Nat, t = .int .i64 (k : Int) ∧ k ≤ n0 ∧ (∀ (i : Nat) (x : ByteArray × Att), i < k → L[i]? = some x → Op.bytesLess x.1.toList n.toList = true) ∧ wr = w4) (fun t _ => n0 - (intOf t).toNat)
                    case atStart => exact ⟨0, rfl, Nat.zero_le _, fun i x hi => by omega, rfl⟩
                    case round =>
                      obtain ⟨k, rfl, hk, hall, rfl⟩ := hrel
                      have HA := hide hall
                      clear hall
                      by_cases hlt : k < n0
                      · have y1 : decide (k < n0) = true := by simpa using hlt
                        have y2 : decide ((k : Int) < (n0 : Int)) = true := decide_eq_true (by omega)
                        obtain ⟨x, hx⟩ : ∃ x, L[k]? = some x := ⟨_, List.getElem?_eq_getElem (by rw [HL.out]; exact hlt)⟩
                        obtain ⟨g, off, rfl, hcell⟩ := HST.out k x hx
                        have HLT := hide hlt
                        cases hb : Op.bytesLess x.1.toList n.toList with
                        | true =>
                          have HN := hide (show ∀ (i : Nat) (x : ByteArray × Att), i < k + 1 → L[i]? = some x → Op.bytesLess x.1.toList n.toList = true from fun i y hi hy => by
                            by_cases e : i = k
                            · rw [e, hx, Option.some.injEq] at hy
                              rw [← hy]
                              exact hb
                            · exact HA.out i y (by omega) hy)
                          clear hx
                          go_wp2
                          go_roundw
                          case rel => exact ⟨k + 1, by go_num, HLT.out, HN.out, by trivial⟩
                          case measure => have := HLT.out; simp [intOf]; omega
                        | false =>
                          have HN := hide (show ∀ y, L[k]? = some y → Op.bytesLess y.1.toList n.toList = false from fun y hy => by
                            rw [hx, Option.some.injEq] at hy
                            rw [← hy]
                            exact hb)
                          clear hx
                          go_wp2
                          go_meet
                          exact ⟨k, rfl, Nat.le_of_lt HLT.out, HA.out, HN.out, rfl⟩
                      · have y1 : decide (k < n0) = false := by simpa using hlt
                        have y2 : decide ((k : Int) < (n0 : Int)) = false := decide_eq_false (by omega)
                        have HN := hide (show ∀ y, L[k]? = some y → Op.bytesLess y.1.toList n.toList = false from fun y hy => by
                          have := (List.getElem?_eq_some_iff.1 hy).1
                          rw [HL.out] at this
                          omega)
                        have HK := hide hk
                        go_wp2
                        go_meet
                        exact ⟨k, rfl, HK.out, HA.out, HN.out, rfl⟩
                  case rest =>
                    obtain ⟨k, rfl, hk, hlo, hhi, rfl⟩ := hcut
                    have HK := hide (And.intro hk (And.intro hlo hhi))
                    clear hlo hhi
                    have hn1 : 0 < n0 := by
                      rw [← HL.out]
                      cases hD : L with
                      | nil => have := HG.out.d; rw [hD] at this; cases this
                      | cons _ _ => exact Nat.succ_pos _
                    obtain ⟨y0, hy0⟩ : ∃ y, L[0]? = some y := ⟨_, List.getElem?_eq_getElem (by rw [HL.out]; exact hn1)⟩
                    obtain ⟨g, off, rfl, _⟩ := HST.out 0 y0 hy0
                    obtain ⟨g2, off2, rfl, _⟩ := rd_att (by have := H4.out.slA.rd; rwa [List.length_map, HL.out] at this) (i := 0) (a := y0.2) (by rw [List.getElem?_map, hy0]; rfl)
                    have hnc : n0 ≤ c := by
                      obtain ⟨_, _, e, hh, _⟩ := H4.out.slN.form
                      injection e with _ e2 e3
                      rw [List.length_map, HL.out] at hh
                      omega
                    have hnd : n0 ≤ d := by
                      obtain ⟨_, _, e, hh, _⟩ := H4.out.slA.form
                      injection e with _ e2 e3
                      rw [List.length_map, HL.out] at hh
                      omega
                    have kb1 : (0 : Int) ≤ (k : Int) := by omega
                    have kb2 : (k : Int) ≤ (c : Int) := by omega
                    have kb3 : (k : Int) ≤ (n0 : Int) := by omega
                    have kb4 : (n0 : Int) ≤ (c : Int) := by omega
                    have kb5 : (k : Int) ≤ (d : Int) := by omega
                    have kb6 : (n0 : Int) ≤ (d : Int) := by omega
                    clear hy0 a0 a1 a2 a3 a4 a5 c0
                    have HFIN := hide (fun (w' : World) (v' : Value) => fin_names (w := w') (v := v') (n := n) (a := a) (L := L) (k := k) (n0 := n0) HL.out hk)
                    go_upto_region 20 with fail
                    go_cut [] (fun wx => ∃ vN, RfAt W wx rb vN ((L.take k ++ (n, a) :: L.drop k).map (·.1)) (.slice (some ⟨g2, off2, none⟩) n0 d) (L.map (·.2)) ((w.heap.size, .cells 23 a.cells.toArray) :: R))
                    case first =>
                      have H5 := hide (H4.out.below (Below.refl _ _).drew)
                      refine wp_region_d (S := fun w' => w'.cell? ⟨rb, 0, none⟩ = some (.slice (some ⟨g, off, none⟩) n0 c)) (D := [21]) (by kernel_rfl) ?_
                      change wpAnyD _ _ _ _ _ _ _ _ _ wc.drew
                      generalize wc.drew = w0 at H5 ⊢
                      have b0 := hide (Below.refl w0.heap.size w0)
                      have HQ := hide (show ∀ w', Below w0.heap.size w0 w' → w'.cell? ⟨rb, 0, none⟩ = some (.slice (some ⟨g, off, none⟩) n0 c) from fun w' hb => by rw [(H5.out.below hb).blk.cell]; rfl)
                      have HFT := hide (show ∀ w', Below w0.heap.size w0 w' → Rd w' (.slice (some ⟨g, off, none⟩) k c) 1 k (strs ((L.map (·.1)).take k)) from fun w' hb => by
                        have h1 := (H5.out.slN.rd).belowF hb
                        rw [List.length_map, HL.out] at h1
                        rw [← strs_take]
                        exact h1.front hk c)
                      have HBK := hide (show ∀ w', Below w0.heap.size w0 w' → Rd w' (.slice (if c = k then some ⟨g, off, none⟩ else some ⟨g, off + k, none⟩) (n0 - k) (c - k)) 1 (n0 - k) (strs ((L.map (·.1)).drop k)) from fun w' hb => by
                        have h1 := (H5.out.slN.rd).belowF hb
                        rw [List.length_map, HL.out] at h1
                        rw [← strs_drop]
                        have h2 := h1.back_if hk hnc (c - k)
                        rw [Nat.mul_one] at h2 ⊢
                        exact h2)
                      obtain ⟨i0, hi, hz0, hz1, hz2⟩ := info_parts info_str
                      have hS := HQ.out _ b0.out
                      refine wpAnyD_takeW (i := 0) (oi := { dst := some 89, op := Op.move (Operand.tmp 0), type := 32, pos := "ref.go:106", after := #[], guard := none }) (v := ?_) rfl (by kernel_rfl) (by kernel_rfl) (by kernel_rfl) (fun _ _ _ h => h) (Or.inl ⟨by rfl, ?_⟩) ?_
                      rotate_left
                      · intro w hSw
                        clear hSw
                        go_simp
                        all_goals with_reducible rfl
                      simp only [Act.put, List.setIfInBounds_toArray, List.set_cons_zero, List.set_cons_succ]
                      refine wpAnyD_takeW (i := 2) (oi := { dst := some 91, op := Op.move (Operand.tmp 0), type := 32, pos := "ref.go:106", after := #[], guard := none }) (v := ?_) rfl (by kernel_rfl) (by kernel_rfl) (by kernel_rfl) (fun _ _ _ h => h) (Or.inl ⟨by rfl, ?_⟩) ?_
                      rotate_left
                      · intro w hSw
                        clear hSw
                        go_simp
                        all_goals with_reducible rfl
                      simp only [Act.put, List.setIfInBounds_toArray, List.set_cons_zero, List.set_cons_succ]
                      refine wpAnyD_takeW (i := 3) (oi := { dst := some 92, op := Op.nilCheck (Operand.tmp 91), type := 0, pos := "ref.go:106", after := #[{ on := 2, ground := Ground.data }], guard := none }) (v := ?_) rfl (by kernel_rfl) (by kernel_rfl) (by kernel_rfl) (fun _ _ _ h => h) (Or.inl ⟨by rfl, ?_⟩) ?_
                      rotate_left
                      · intro w hSw
                        clear hSw
                        go_simp
                        all_goals with_reducible rfl
                      simp only [Act.put, List.setIfInBounds_toArray, List.set_cons_zero, List.set_cons_succ]
                      refine wpAnyD_takeW (i := 4) (oi := { dst := some 93, op := Op.fieldAddr 43 (Operand.tmp 92) 0, type := 0, pos := "ref.go:106", after := #[{ on := 3, ground := Ground.data }], guard := none }) (v := ?_) rfl (by kernel_rfl) (by kernel_rfl) (by kernel_rfl) (fun _ _ _ h => h) (Or.inl ⟨by rfl, ?_⟩) ?_
                      rotate_left
                      · intro w hSw
                        clear hSw
                        go_simp
                        all_goals with_reducible rfl
                      simp only [Act.put, List.setIfInBounds_toArray, List.set_cons_zero, List.set_cons_succ]
                      refine wpAnyD_take (i := 5) (oi := { dst := some 94, op := Op.load 39 (Operand.tmp 93), type := 39, pos := "ref.go:106", after := #[{ on := 4, ground := Ground.data }], guard := none }) (v := ?_) rfl (by kernel_rfl) (by kernel_rfl) (by kernel_rfl) (by kernel_rfl) (by kernel_rfl) (fun _ _ _ h => h) (Or.inl ⟨by rfl, ?_⟩) hS ?_
                      rotate_left
                      · intro w hSw
                        (try dsimp only at hSw)
                        (try go_split_ands)
                        go_simp
                        all_goals with_reducible rfl
                      simp only [Act.put, List.setIfInBounds_toArray, List.set_cons_zero, List.set_cons_succ]
                      refine wpAnyD_takeW (i := 6) (oi := { dst := some 95, op := Op.move (Operand.tmp 8), type := 3, pos := "ref.go:106", after := #[], guard := none }) (v := ?_) rfl (by kernel_rfl) (by kernel_rfl) (by kernel_rfl) (fun _ _ _ h => h) (Or.inl ⟨by rfl, ?_⟩) ?_
                      rotate_left
                      · intro w hSw
                        clear hSw
                        go_simp
                        all_goals with_reducible rfl
                      simp only [Act.put, List.setIfInBounds_toArray, List.set_cons_zero, List.set_cons_succ]
                      refine wpAnyD_takeW (i := 7) (oi := { dst := some 96, op := Op.slice 39 (Operand.tmp 94) none (some (Operand.tmp 95)) none, type := 39, pos := "ref.go:106", after := #[{ on := 5, ground := Ground.data }, { on := 6, ground := Ground.data }], guard := none }) (v := ?_) rfl (by kernel_rfl) (by kernel_rfl) (by kernel_rfl) (fun _ _ _ h => h) (Or.inl ⟨by rfl, ?_⟩) ?_
                      rotate_left
                      · intro w hSw
                        clear hSw
                        go_simp
                        all_goals with_reducible rfl
                      simp only [Act.put, List.setIfInBounds_toArray, List.set_cons_zero, List.set_cons_succ]
                      refine wpAnyD_takeW (i := 9) (oi := { dst := some 98, op := Op.move (Operand.tmp 1), type := 9, pos := "ref.go:106", after := #[], guard := none }) (v := ?_) rfl (by kernel_rfl) (by kernel_rfl) (by kernel_rfl) (fun _ _ _ h => h) (Or.inl ⟨by rfl, ?_⟩) ?_
                      rotate_left
                      · intro w hSw
                        clear hSw
                        go_simp
                        all_goals with_reducible rfl
                      simp only [Act.put, List.setIfInBounds_toArray, List.set_cons_zero, List.set_cons_succ]
                      refine wpAnyD_takeW (i := 12) (oi := { dst := some 101, op := Op.move (Operand.tmp 0), type := 32, pos := "ref.go:106", after := #[], guard := none }) (v := ?_) rfl (by kernel_rfl) (by kernel_rfl) (by kernel_rfl) (fun _ _ _ h => h) (Or.inl ⟨by rfl, ?_⟩) ?_
                      rotate_left
                      · intro w hSw
                        clear hSw
                        go_simp
                        all_goals with_reducible rfl
                      simp only [Act.put, List.setIfInBounds_toArray, List.set_cons_zero, List.set_cons_succ]
                      refine wpAnyD_takeW (i := 13) (oi := { dst := some 102, op := Op.nilCheck (Operand.tmp 101), type := 0, pos := "ref.go:106", after := #[{ on := 12, ground := Ground.data }], guard := none }) (v := ?_) rfl (by kernel_rfl) (by kernel_rfl) (by kernel_rfl) (fun _ _ _ h => h) (Or.inl ⟨by rfl, ?_⟩) ?_
                      rotate_left
                      · intro w hSw
                        clear hSw
                        go_simp
                        all_goals with_reducible rfl
                      simp only [Act.put, List.setIfInBounds_toArray, List.set_cons_zero, List.set_cons_succ]
                      refine wpAnyD_takeW (i := 14) (oi := { dst := some 103, op := Op.fieldAddr 43 (Operand.tmp 102) 0, type := 0, pos := "ref.go:106", after := #[{ on := 13, ground := Ground.data }], guard := none }) (v := ?_) rfl (by kernel_rfl) (by kernel_rfl) (by kernel_rfl) (fun _ _ _ h => h) (Or.inl ⟨by rfl, ?_⟩) ?_
                      rotate_left
                      · intro w hSw
                        clear hSw
                        go_simp
                        all_goals with_reducible rfl
                      simp only [Act.put, List.setIfInBounds_toArray, List.set_cons_zero, List.set_cons_succ]
                      refine wpAnyD_take (i := 15) (oi := { dst := some 104, op := Op.load 39 (Operand.tmp 103), type := 39, pos := "ref.go:106", after := #[{ on := 14, ground := Ground.data }], guard := none }) (v := ?_) rfl (by kernel_rfl) (by kernel_rfl) (by kernel_rfl) (by kernel_rfl) (by kernel_rfl) (fun _ _ _ h => h) (Or.inl ⟨by rfl, ?_⟩) hS ?_
                      rotate_left
                      · intro w hSw
                        (try dsimp only at hSw)
                        (try go_split_ands)
                        go_simp
                        all_goals with_reducible rfl
                      simp only [Act.put, List.setIfInBounds_toArray, List.set_cons_zero, List.set_cons_succ]
                      refine wpAnyD_takeW (i := 16) (oi := { dst := some 105, op := Op.move (Operand.tmp 8), type := 3, pos := "ref.go:106", after := #[], guard := none }) (v := ?_) rfl (by kernel_rfl) (by kernel_rfl) (by kernel_rfl) (fun _ _ _ h => h) (Or.inl ⟨by rfl, ?_⟩) ?_
                      rotate_left
                      · intro w hSw
                        clear hSw
                        go_simp
                        all_goals with_reducible rfl
                      simp only [Act.put, List.setIfInBounds_toArray, List.set_cons_zero, List.set_cons_succ]
                      refine wpAnyD_takeW (i := 17) (oi := { dst := some 106, op := Op.slice 39 (Operand.tmp 104) (some (Operand.tmp 105)) none none, type := 39, pos := "ref.go:106", after := #[{ on := 15, ground := Ground.data }, { on := 16, ground := Ground.data }], guard := none }) (v := ?_) rfl (by kernel_rfl) (by kernel_rfl) (by kernel_rfl) (fun _ _ _ h => h) (Or.inl ⟨by rfl, ?_⟩) ?_
                      rotate_left
                      · intro w hSw
                        clear hSw
                        go_simp
                        all_goals with_reducible rfl
                      simp only [Act.put, List.setIfInBounds_toArray, List.set_cons_zero, List.set_cons_succ]
                      clear hS
                      refine wpAnyD_two (i := 1) (j := 10) (o := { dst := some 90, op := Op.buildSlice 39 0 #[], type := 39, pos := "ref.go:106", after := #[], guard := none }) (p := { dst := some 99, op := Op.buildSlice 39 1 #[(0, Operand.tmp 98)], type := 39, pos := "ref.go:106", after := #[{ on := 9, ground := Ground.data }], guard := none }) (by kernel_rfl) rfl rfl (fun K hK => ?_) (fun K hK => ?_)
                      · have b1 := hide (b0.out.alloc b0.out.size (.cells #[] 9))
                        have E1 := hide (show Sl (w0.alloc (.cells #[] 9)) 9 1 (.slice (some ⟨w0.heap.size, 0, none⟩) 0 0) 0 [] by simpa only [World.size_alloc] using (show Sl (w0.alloc (.cells #[] 9)) 9 1 (.slice (some ⟨w0.heap.size, 0, none⟩) 0 0) 0 [] from Sl.new w0 9 1 #[] 0 0 (Nat.le_refl _) (Nat.zero_le _) (Nat.le_refl _)))
                        have V1 := hide (show ∀ g, (Value.slice (some ⟨w0.heap.size, 0, none⟩) 0 0).ownBlock = some g → w0.heap.size ≤ g from fun g hg => by
                          cases hg
                          have := b0.out.size
                          simpa only [World.size_alloc] using this)
                        go_simp
                        refine hK _ _ (fun _ _ => HQ.out _ b1.out) ?_
                        clear hK K
                        try simp only [Act.put, List.setIfInBounds_toArray, List.set_cons_zero, List.set_cons_succ]
                        refine wpAnyD_two (i := 8) (j := 10) (o := { dst := some 97, op := Op.call { callee := Callee.builtin Builtin.append, args := #[Operand.tmp 90, Operand.tmp 96], argTypes := #[39, 39] }, type := 39, pos := "ref.go:106", after := #[{ on := 1, ground := Ground.data }, { on := 7, ground := Ground.data }], guard := none }) (p := { dst := some 99, op := Op.buildSlice 39 1 #[(0, Operand.tmp 98)], type := 39, pos := "ref.go:106", after := #[{ on := 9, ground := Ground.data }], guard := none }) (by kernel_rfl) rfl rfl (fun K hK => ?_) (fun K hK => ?_)
                        · refine step_append_w (by rfl) (.tmp 90) (.tmp 96) 39 rfl 9 i0 _ 1 16 Try.underlying39 hi hz0 hz1 hz2 rfl (.slice (some ⟨w0.heap.size, 0, none⟩) 0 0) (0) ([]) rfl E1.out _ rfl k (strs ((L.map (fun x : ByteArray × Att => x.1)).take k)) (HFT.out _ b1.out) (strs_one _) (by unfold maxLen; omega) (by omega) ?_
                          intro v2 w2 hs2 ho2 hv2
                          rw [Nat.zero_add, List.nil_append] at hs2
                          have b2 := hide (b1.out.trans (ho2.below b1.out.size fun i hi => V1.out i hi))
                          have E2 := hide hs2
                          have V2 := hide (show ∀ g, v2.ownBlock = some g → w0.heap.size ≤ g from fun g hg => by
                            rcases hv2 with e | e
                            · exact V1.out g (by rw [← e]; exact hg)
                            · rw [e] at hg
                              cases hg
                              exact b1.out.size)
                          clear hs2 ho2 hv2
                          refine hK _ _ (fun _ _ => HQ.out _ b2.out) ?_
                          clear hK K
                          try simp only [Act.put, List.setIfInBounds_toArray, List.set_cons_zero, List.set_cons_succ]
                          refine wpAnyD_one (i := 10) (o := { dst := some 99, op := Op.buildSlice 39 1 #[(0, Operand.tmp 98)], type := 39, pos := "ref.go:106", after := #[{ on := 9, ground := Ground.data }], guard := none }) (by kernel_rfl) rfl (fun K hK => ?_)
                          have b3 := hide (b2.out.alloc b2.out.size (.cells #[.string n] 9))
                          have RD3 := hide (show Rd (w2.alloc (.cells #[.string n] 9)) (.slice (some ⟨w2.heap.size, 0, none⟩) 1 1) 1 1 [.string n] by simpa only [World.size_alloc] using (show Rd (w2.alloc (.cells #[.string n] 9)) (.slice (some ⟨w2.heap.size, 0, none⟩) 1 1) 1 1 [.string n] from rd_elem w2 9 1 [.string n] rfl))
                          have E3 := hide (E2.out.alloc (.cells #[.string n] 9))
                          go_simp
                          refine hK _ _ (fun _ _ => HQ.out _ b3.out) ?_
                          clear hK K
                          try simp only [Act.put, List.setIfInBounds_toArray, List.set_cons_zero, List.set_cons_succ]
                          refine wpAnyD_one (i := 11) (o := { dst := some 100, op := Op.call { callee := Callee.builtin Builtin.append, args := #[Operand.tmp 97, Operand.tmp 99], argTypes := #[39, 39] }, type := 39, pos := "ref.go:106", after := #[{ on := 8, ground := Ground.data }, { on := 10, ground := Ground.data }, { on := 8, ground := Ground.chain }], guard := none }) (by kernel_rfl) rfl (fun K hK => ?_)
                          refine step_append_w (by rfl) (.tmp 97) (.tmp 99) 39 rfl 9 i0 _ 1 16 Try.underlying39 hi hz0 hz1 hz2 rfl v2 (k) (strs ((L.map (fun x : ByteArray × Att => x.1)).take k)) rfl E3.out _ rfl 1 ([.string n]) (RD3.out) (strs_one [n]) (by unfold maxLen; omega) (by omega) ?_
                          intro v4 w4 hs4 ho4 hv4
                          have b4 := hide (b3.out.trans (ho4.below b3.out.size fun i hi => V2.out i hi))
                          have E4 := hide hs4
                          have V4 := hide (show ∀ g, v4.ownBlock = some g → w0.heap.size ≤ g from fun g hg => by
                            rcases hv4 with e | e
                            · exact V2.out g (by rw [← e]; exact hg)
                            · rw [e] at hg
                              cases hg
                              exact b3.out.size)
                          clear hs4 ho4 hv4
                          refine hK _ _ (fun _ _ => HQ.out _ b4.out) ?_
                          clear hK K
                          try simp only [Act.put, List.setIfInBounds_toArray, List.set_cons_zero, List.set_cons_succ]
                          refine wpAnyD_one (i := 18) (o := { dst := some 107, op := Op.call { callee := Callee.builtin Builtin.append, args := #[Operand.tmp 100, Operand.tmp 106], argTypes := #[39, 39] }, type := 39, pos := "ref.go:106", after := #[{ on := 11, ground := Ground.data }, { on := 17, ground := Ground.data }, { on := 11, ground := Ground.chain }], guard := none }) (by kernel_rfl) rfl (fun K hK => ?_)
                          refine step_append_w (by rfl) (.tmp 100) (.tmp 106) 39 rfl 9 i0 _ 1 16 Try.underlying39 hi hz0 hz1 hz2 rfl v4 (k + 1) (strs ((L.map (fun x : ByteArray × Att => x.1)).take k) ++ [.string n]) rfl E4.out _ rfl (n0 - k) (strs ((L.map (fun x : ByteArray × Att => x.1)).drop k)) (HBK.out _ b4.out) (strs_one _) (by unfold maxLen; omega) (by omega) ?_
                          intro v5 w5 hs5 ho5 hv5
                          have b5 := hide (b4.out.trans (ho5.below b4.out.size fun i hi => V4.out i hi))
                          have E5 := hide hs5
                          have V5 := hide (show ∀ g, v5.ownBlock = some g → w0.heap.size ≤ g from fun g hg => by
                            rcases hv5 with e | e
                            · exact V4.out g (by rw [← e]; exact hg)
                            · rw [e] at hg
                              cases hg
                              exact b4.out.size)
                          clear hs5 ho5 hv5
                          refine hK _ _ (fun _ _ => HQ.out _ b5.out) ?_
                          clear hK K
                          try simp only [Act.put, List.setIfInBounds_toArray, List.set_cons_zero, List.set_cons_succ]
                          obtain ⟨Ax, cx, hvx, _⟩ := id E5.out.form
                          subst hvx
                          refine wpAnyD_takeW (i := 19) (oi := { dst := some 108, op := Op.nilCheck (Operand.tmp 89), type := 0, pos := "ref.go:106", after := #[{ on := 0, ground := Ground.data }, { on := 0, ground := Ground.phase }, { on := 1, ground := Ground.phase }, { on := 2, ground := Ground.phase }, { on := 3, ground := Ground.phase }, { on := 4, ground := Ground.phase }, { on := 5, ground := Ground.phase }, { on := 6, ground := Ground.phase }, { on := 7, ground := Ground.phase }, { on := 8, ground := Ground.phase }, { on := 9, ground := Ground.phase }, { on := 10, ground := Ground.phase }, { on := 11, ground := Ground.phase }, { on := 12, ground := Ground.phase }, { on := 13, ground := Ground.phase }, { on := 14, ground := Ground.phase }, { on := 15, ground := Ground.phase }, { on := 16, ground := Ground.phase }, { on := 17, ground := Ground.phase }, { on := 18, ground := Ground.phase }], guard := none }) (v := ?_) rfl (by kernel_rfl) (by kernel_rfl) (by kernel_rfl) (fun _ _ _ h => h) (Or.inl ⟨by rfl, ?_⟩) ?_
                          rotate_left
                          · intro w hSw
                            clear hSw
                            go_simp
                            all_goals with_reducible rfl
                          simp only [Act.put, List.setIfInBounds_toArray, List.set_cons_zero, List.set_cons_succ]
                          refine wpAnyD_takeW (i := 20) (oi := { dst := some 109, op := Op.fieldAddr 43 (Operand.tmp 108) 0, type := 0, pos := "ref.go:106", after := #[{ on := 19, ground := Ground.data }, { on := 0, ground := Ground.phase }, { on := 1, ground := Ground.phase }, { on := 2, ground := Ground.phase }, { on := 3, ground := Ground.phase }, { on := 4, ground := Ground.phase }, { on := 5, ground := Ground.phase }, { on := 6, ground := Ground.phase }, { on := 7, ground := Ground.phase }, { on := 8, ground := Ground.phase }, { on := 9, ground := Ground.phase }, { on := 10, ground := Ground.phase }, { on := 11, ground := Ground.phase }, { on := 12, ground := Ground.phase }, { on := 13, ground := Ground.phase }, { on := 14, ground := Ground.phase }, { on := 15, ground := Ground.phase }, { on := 16, ground := Ground.phase }, { on := 17, ground := Ground.phase }, { on := 18, ground := Ground.phase }], guard := none }) (v := ?_) rfl (by kernel_rfl) (by kernel_rfl) (by kernel_rfl) (fun _ _ _ h => h) (Or.inl ⟨by rfl, ?_⟩) ?_
                          rotate_left
                          · intro w hSw
                            clear hSw
                            go_simp
                            all_goals with_reducible rfl
                          simp only [Act.put, List.setIfInBounds_toArray, List.set_cons_zero, List.set_cons_succ]
                          have fz : w5.frozen? ⟨rb, 0, none⟩ = false := (H5.out.below b5.out).blk.frozen 0
                          have hS := HQ.out _ b5.out
                          refine wpAnyD_one (i := 21) (o := { dst := none, op := Op.store 39 (Operand.tmp 109) (Operand.tmp 107), type := 0, pos := "ref.go:106", after := #[{ on := 20, ground := Ground.data }, { on := 18, ground := Ground.data }, { on := 18, ground := Ground.chain }, { on := 0, ground := Ground.phase }, { on := 1, ground := Ground.phase }, { on := 2, ground := Ground.phase }, { on := 3, ground := Ground.phase }, { on := 4, ground := Ground.phase }, { on := 5, ground := Ground.phase }, { on := 6, ground := Ground.phase }, { on := 7, ground := Ground.phase }, { on := 8, ground := Ground.phase }, { on := 9, ground := Ground.phase }, { on := 10, ground := Ground.phase }, { on := 11, ground := Ground.phase }, { on := 12, ground := Ground.phase }, { on := 13, ground := Ground.phase }, { on := 14, ground := Ground.phase }, { on := 15, ground := Ground.phase }, { on := 16, ground := Ground.phase }, { on := 17, ground := Ground.phase }, { on := 18, ground := Ground.phase }], guard := none }) (by kernel_rfl) rfl (fun K hK => ?_)
                          go_simp
                          refine hK _ _ (fun h => by cases h) ?_
                          clear hK K
                          try simp only [Act.put, List.setIfInBounds_toArray, List.set_cons_zero, List.set_cons_succ]
                          refine wpAnyD_done (by kernel_rfl) ?_ _
                          go_wp2_with fail
                          all_goals go_meet
                          all_goals exact ⟨_, H5.out.setN b5.out (HFIN.out _ _ E5.out) V5.out⟩
                        · have b2 := hide (b1.out.alloc b1.out.size (.cells #[.string n] 9))
                          have RD2 := hide (show Rd ((w0.alloc (.cells #[] 9)).alloc (.cells #[.string n] 9)) (.slice (some ⟨w0.heap.size + 1, 0, none⟩) 1 1) 1 1 [.string n] by simpa only [World.size_alloc] using (show Rd ((w0.alloc (.cells #[] 9)).alloc (.cells #[.string n] 9)) (.slice (some ⟨(w0.alloc (.cells #[] 9)).heap.size, 0, none⟩) 1 1) 1 1 [.string n] from rd_elem (w0.alloc (.cells #[] 9)) 9 1 [.string n] rfl))
                          have E2 := hide (E1.out.alloc (.cells #[.string n] 9))
                          go_simp
                          refine hK _ _ (fun _ _ => HQ.out _ b2.out) ?_
                          clear hK K
                          try simp only [Act.put, List.setIfInBounds_toArray, List.set_cons_zero, List.set_cons_succ]
                          refine wpAnyD_one (i := 8) (o := { dst := some 97, op := Op.call { callee := Callee.builtin Builtin.append, args := #[Operand.tmp 90, Operand.tmp 96], argTypes := #[39, 39] }, type := 39, pos := "ref.go:106", after := #[{ on := 1, ground := Ground.data }, { on := 7, ground := Ground.data }], guard := none }) (by kernel_rfl) rfl (fun K hK => ?_)
                          refine step_append_w (by rfl) (.tmp 90) (.tmp 96) 39 rfl 9 i0 _ 1 16 Try.underlying39 hi hz0 hz1 hz2 rfl (.slice (some ⟨w0.heap.size, 0, none⟩) 0 0) (0) ([]) rfl E2.out _ rfl k (strs ((L.map (fun x : ByteArray × Att => x.1)).take k)) (HFT.out _ b2.out) (strs_one _) (by unfold maxLen; omega) (by omega) ?_
                          intro v3 w3 hs3 ho3 hv3
                          rw [Nat.zero_add, List.nil_append] at hs3
                          have b3 := hide (b2.out.trans (ho3.below b2.out.size fun i hi => V1.out i hi))
                          have E3 := hide hs3
                          have V3 := hide (show ∀ g, v3.ownBlock = some g → w0.heap.size ≤ g from fun g hg => by
                            rcases hv3 with e | e
                            · exact V1.out g (by rw [← e]; exact hg)
                            · rw [e] at hg
                              cases hg
                              exact b2.out.size)
                          have RD3 := hide (RD2.out.only ho3 (fun g hg hF => by
                            cases hg
                            injection hF with hF
                            have : w0.heap.size = w0.heap.size + 1 := hF
                            omega))
                          clear hs3 ho3 hv3
                          refine hK _ _ (fun _ _ => HQ.out _ b3.out) ?_
                          clear hK K
                          try simp only [Act.put, List.setIfInBounds_toArray, List.set_cons_zero, List.set_cons_succ]
                          refine wpAnyD_one (i := 11) (o := { dst := some 100, op := Op.call { callee := Callee.builtin Builtin.append, args := #[Operand.tmp 97, Operand.tmp 99], argTypes := #[39, 39] }, type := 39, pos := "ref.go:106", after := #[{ on := 8, ground := Ground.data }, { on := 10, ground := Ground.data }, { on := 8, ground := Ground.chain }], guard := none }) (by kernel_rfl) rfl (fun K hK => ?_)
                          refine step_append_w (by rfl) (.tmp 97) (.tmp 99) 39 rfl 9 i0 _ 1 16 Try.underlying39 hi hz0 hz1 hz2 rfl v3 (k) (strs ((L.map (fun x : ByteArray × Att => x.1)).take k)) rfl E3.out _ rfl 1 ([.string n]) (RD3.out) (strs_one [n]) (by unfold maxLen; omega) (by omega) ?_
                          intro v4 w4 hs4 ho4 hv4
                          have b4 := hide (b3.out.trans (ho4.below b3.out.size fun i hi => V3.out i hi))
                          have E4 := hide hs4
                          have V4 := hide (show ∀ g, v4.ownBlock = some g → w0.heap.size ≤ g from fun g hg => by
                            rcases hv4 with e | e
                            · exact V3.out g (by rw [← e]; exact hg)
                            · rw [e] at hg
                              cases hg
                              exact b3.out.size)
                          clear hs4 ho4 hv4
                          refine hK _ _ (fun _ _ => HQ.out _ b4.out) ?_
                          clear hK K
                          try simp only [Act.put, List.setIfInBounds_toArray, List.set_cons_zero, List.set_cons_succ]
                          refine wpAnyD_one (i := 18) (o := { dst := some 107, op := Op.call { callee := Callee.builtin Builtin.append, args := #[Operand.tmp 100, Operand.tmp 106], argTypes := #[39, 39] }, type := 39, pos := "ref.go:106", after := #[{ on := 11, ground := Ground.data }, { on := 17, ground := Ground.data }, { on := 11, ground := Ground.chain }], guard := none }) (by kernel_rfl) rfl (fun K hK => ?_)
                          refine step_append_w (by rfl) (.tmp 100) (.tmp 106) 39 rfl 9 i0 _ 1 16 Try.underlying39 hi hz0 hz1 hz2 rfl v4 (k + 1) (strs ((L.map (fun x : ByteArray × Att => x.1)).take k) ++ [.string n]) rfl E4.out _ rfl (n0 - k) (strs ((L.map (fun x : ByteArray × Att => x.1)).drop k)) (HBK.out _ b4.out) (strs_one _) (by unfold maxLen; omega) (by omega) ?_
                          intro v5 w5 hs5 ho5 hv5
                          have b5 := hide (b4.out.trans (ho5.below b4.out.size fun i hi => V4.out i hi))
                          have E5 := hide hs5
                          have V5 := hide (show ∀ g, v5.ownBlock = some g → w0.heap.size ≤ g from fun g hg => by
                            rcases hv5 with e | e
                            · exact V4.out g (by rw [← e]; exact hg)
                            · rw [e] at hg
                              cases hg
                              exact b4.out.size)
                          clear hs5 ho5 hv5
                          refine hK _ _ (fun _ _ => HQ.out _ b5.out) ?_
                          clear hK K
                          try simp only [Act.put, List.setIfInBounds_toArray, List.set_cons_zero, List.set_cons_succ]
                          obtain ⟨Ax, cx, hvx, _⟩ := id E5.out.form
                          subst hvx
                          refine wpAnyD_takeW (i := 19) (oi := { dst := some 108, op := Op.nilCheck (Operand.tmp 89), type := 0, pos := "ref.go:106", after := #[{ on := 0, ground := Ground.data }, { on := 0, ground := Ground.phase }, { on := 1, ground := Ground.phase }, { on := 2, ground := Ground.phase }, { on := 3, ground := Ground.phase }, { on := 4, ground := Ground.phase }, { on := 5, ground := Ground.phase }, { on := 6, ground := Ground.phase }, { on := 7, ground := Ground.phase }, { on := 8, ground := Ground.phase }, { on := 9, ground := Ground.phase }, { on := 10, ground := Ground.phase }, { on := 11, ground := Ground.phase }, { on := 12, ground := Ground.phase }, { on := 13, ground := Ground.phase }, { on := 14, ground := Ground.phase }, { on := 15, ground := Ground.phase }, { on := 16, ground := Ground.phase }, { on := 17, ground := Ground.phase }, { on := 18, ground := Ground.phase }], guard := none }) (v := ?_) rfl (by kernel_rfl) (by kernel_rfl) (by kernel_rfl) (fun _ _ _ h => h) (Or.inl ⟨by rfl, ?_⟩) ?_
                          rotate_left
                          · intro w hSw
                            clear hSw
                            go_simp
                            all_goals with_reducible rfl
                          simp only [Act.put, List.setIfInBounds_toArray, List.set_cons_zero, List.set_cons_succ]
                          refine wpAnyD_takeW (i := 20) (oi := { dst := some 109, op := Op.fieldAddr 43 (Operand.tmp 108) 0, type := 0, pos := "ref.go:106", after := #[{ on := 19, ground := Ground.data }, { on := 0, ground := Ground.phase }, { on := 1, ground := Ground.phase }, { on := 2, ground := Ground.phase }, { on := 3, ground := Ground.phase }, { on := 4, ground := Ground.phase }, { on := 5, ground := Ground.phase }, { on := 6, ground := Ground.phase }, { on := 7, ground := Ground.phase }, { on := 8, ground := Ground.phase }, { on := 9, ground := Ground.phase }, { on := 10, ground := Ground.phase }, { on := 11, ground := Ground.phase }, { on := 12, ground := Ground.phase }, { on := 13, ground := Ground.phase }, { on := 14, ground := Ground.phase }, { on := 15, ground := Ground.phase }, { on := 16, ground := Ground.phase }, { on := 17, ground := Ground.phase }, { on := 18, ground := Ground.phase }], guard := none }) (v := ?_) rfl (by kernel_rfl) (by kernel_rfl) (by kernel_rfl) (fun _ _ _ h => h) (Or.inl ⟨by rfl, ?_⟩) ?_
                          rotate_left
                          · intro w hSw
                            clear hSw
                            go_simp
                            all_goals with_reducible rfl
                          simp only [Act.put, List.setIfInBounds_toArray, List.set_cons_zero, List.set_cons_succ]
                          have fz : w5.frozen? ⟨rb, 0, none⟩ = false := (H5.out.below b5.out).blk.frozen 0
                          have hS := HQ.out _ b5.out
                          refine wpAnyD_one (i := 21) (o := { dst := none, op := Op.store 39 (Operand.tmp 109) (Operand.tmp 107), type := 0, pos := "ref.go:106", after := #[{ on := 20, ground := Ground.data }, { on := 18, ground := Ground.data }, { on := 18, ground := Ground.chain }, { on := 0, ground := Ground.phase }, { on := 1, ground := Ground.phase }, { on := 2, ground := Ground.phase }, { on := 3, ground := Ground.phase }, { on := 4, ground := Ground.phase }, { on := 5, ground := Ground.phase }, { on := 6, ground := Ground.phase }, { on := 7, ground := Ground.phase }, { on := 8, ground := Ground.phase }, { on := 9, ground := Ground.phase }, { on := 10, ground := Ground.phase }, { on := 11, ground := Ground.phase }, { on := 12, ground := Ground.phase }, { on := 13, ground := Ground.phase }, { on := 14, ground := Ground.phase }, { on := 15, ground := Ground.phase }, { on := 16, ground := Ground.phase }, { on := 17, ground := Ground.phase }, { on := 18, ground := Ground.phase }], guard := none }) (by kernel_rfl) rfl (fun K hK => ?_)
                          go_simp
                          refine hK _ _ (fun h => by cases h) ?_
                          clear hK K
                          try simp only [Act.put, List.setIfInBounds_toArray, List.set_cons_zero, List.set_cons_succ]
                          refine wpAnyD_done (by kernel_rfl) ?_ _
                          go_wp2_with fail
                          all_goals go_meet
                          all_goals exact ⟨_, H5.out.setN b5.out (HFIN.out _ _ E5.out) V5.out⟩
                      · have b1 := hide (b0.out.alloc b0.out.size (.cells #[.string n] 9))
                        have RD1 := hide (show Rd (w0.alloc (.cells #[.string n] 9)) (.slice (some ⟨w0.heap.size, 0, none⟩) 1 1) 1 1 [.string n] by simpa only [World.size_alloc] using (show Rd (w0.alloc (.cells #[.string n] 9)) (.slice (some ⟨w0.heap.size, 0, none⟩) 1 1) 1 1 [.string n] from rd_elem w0 9 1 [.string n] rfl))
                        go_simp
                        refine hK _ _ (fun _ _ => HQ.out _ b1.out) ?_
                        clear hK K
                        try simp only [Act.put, List.setIfInBounds_toArray, List.set_cons_zero, List.set_cons_succ]
                        refine wpAnyD_one (i := 1) (o := { dst := some 90, op := Op.buildSlice 39 0 #[], type := 39, pos := "ref.go:106", after := #[], guard := none }) (by kernel_rfl) rfl (fun K hK => ?_)
                        have b2 := hide (b1.out.alloc b1.out.size (.cells #[] 9))
                        have E2 := hide (show Sl ((w0.alloc (.cells #[.string n] 9)).alloc (.cells #[] 9)) 9 1 (.slice (some ⟨w0.heap.size + 1, 0, none⟩) 0 0) 0 [] by simpa only [World.size_alloc] using (show Sl ((w0.alloc (.cells #[.string n] 9)).alloc (.cells #[] 9)) 9 1 (.slice (some ⟨(w0.alloc (.cells #[.string n] 9)).heap.size, 0, none⟩) 0 0) 0 [] from Sl.new (w0.alloc (.cells #[.string n] 9)) 9 1 #[] 0 0 (Nat.le_refl _) (Nat.zero_le _) (Nat.le_refl _)))
                        have V2 := hide (show ∀ g, (Value.slice (some ⟨w0.heap.size + 1, 0, none⟩) 0 0).ownBlock = some g → w0.heap.size ≤ g from fun g hg => by
                          cases hg
                          have := b1.out.size
                          simpa only [World.size_alloc] using this)
                        have RD2 := hide (RD1.out.belowF ((Below.refl _ _).alloc (Nat.le_refl _) (.cells #[] 9)))
                        go_simp
                        refine hK _ _ (fun _ _ => HQ.out _ b2.out) ?_
                        clear hK K
                        try simp only [Act.put, List.setIfInBounds_toArray, List.set_cons_zero, List.set_cons_succ]
                        refine wpAnyD_one (i := 8) (o := { dst := some 97, op := Op.call { callee := Callee.builtin Builtin.append, args := #[Operand.tmp 90, Operand.tmp 96], argTypes := #[39, 39] }, type := 39, pos := "ref.go:106", after := #[{ on := 1, ground := Ground.data }, { on := 7, ground := Ground.data }], guard := none }) (by kernel_rfl) rfl (fun K hK => ?_)
                        refine step_append_w (by rfl) (.tmp 90) (.tmp 96) 39 rfl 9 i0 _ 1 16 Try.underlying39 hi hz0 hz1 hz2 rfl (.slice (some ⟨w0.heap.size + 1, 0, none⟩) 0 0) (0) ([]) rfl E2.out _ rfl k (strs ((L.map (fun x : ByteArray × Att => x.1)).take k)) (HFT.out _ b2.out) (strs_one _) (by unfold maxLen; omega) (by omega) ?_
                        intro v3 w3 hs3 ho3 hv3
                        rw [Nat.zero_add, List.nil_append] at hs3
                        have b3 := hide (b2.out.trans (ho3.below b2.out.size fun i hi => V2.out i hi))
                        have E3 := hide hs3
                        have V3 := hide (show ∀ g, v3.ownBlock = some g → w0.heap.size ≤ g from fun g hg => by
                          rcases hv3 with e | e
                          · exact V2.out g (by rw [← e]; exact hg)
                          · rw [e] at hg
                            cases hg
                            exact b2.out.size)
                        have RD3 := hide (RD2.out.only ho3 (fun g hg hF => by
                          cases hg
                          injection hF with hF
                          have : w0.heap.size + 1 = w0.heap.size := hF
                          omega))
                        clear hs3 ho3 hv3
                        refine hK _ _ (fun _ _ => HQ.out _ b3.out) ?_
                        clear hK K
                        try simp only [Act.put, List.setIfInBounds_toArray, List.set_cons_zero, List.set_cons_succ]
                        refine wpAnyD_one (i := 11) (o := { dst := some 100, op := Op.call { callee := Callee.builtin Builtin.append, args := #[Operand.tmp 97, Operand.tmp 99], argTypes := #[39, 39] }, type := 39, pos := "ref.go:106", after := #[{ on := 8, ground := Ground.data }, { on := 10, ground := Ground.data }, { on := 8, ground := Ground.chain }], guard := none }) (by kernel_rfl) rfl (fun K hK => ?_)
                        refine step_append_w (by rfl) (.tmp 97) (.tmp 99) 39 rfl 9 i0 _ 1 16 Try.underlying39 hi hz0 hz1 hz2 rfl v3 (k) (strs ((L.map (fun x : ByteArray × Att => x.1)).take k)) rfl E3.out _ rfl 1 ([.string n]) (RD3.out) (strs_one [n]) (by unfold maxLen; omega) (by omega) ?_
                        intro v4 w4 hs4 ho4 hv4
                        have b4 := hide (b3.out.trans (ho4.below b3.out.size fun i hi => V3.out i hi))
                        have E4 := hide hs4
                        have V4 := hide (show ∀ g, v4.ownBlock = some g → w0.heap.size ≤ g from fun g hg => by
                          rcases hv4 with e | e
                          · exact V3.out g (by rw [← e]; exact hg)
                          · rw [e] at hg
                            cases hg
                            exact b3.out.size)
                        clear hs4 ho4 hv4
                        refine hK _ _ (fun _ _ => HQ.out _ b4.out) ?_
                        clear hK K
                        try simp only [Act.put, List.setIfInBounds_toArray, List.set_cons_zero, List.set_cons_succ]
                        refine wpAnyD_one (i := 18) (o := { dst := some 107, op := Op.call { callee := Callee.builtin Builtin.append, args := #[Operand.tmp 100, Operand.tmp 106], argTypes := #[39, 39] }, type := 39, pos := "ref.go:106", after := #[{ on := 11, ground := Ground.data }, { on := 17, ground := Ground.data }, { on := 11, ground := Ground.chain }], guard := none }) (by kernel_rfl) rfl (fun K hK => ?_)
                        refine step_append_w (by rfl) (.tmp 100) (.tmp 106) 39 rfl 9 i0 _ 1 16 Try.underlying39 hi hz0 hz1 hz2 rfl v4 (k + 1) (strs ((L.map (fun x : ByteArray × Att => x.1)).take k) ++ [.string n]) rfl E4.out _ rfl (n0 - k) (strs ((L.map (fun x : ByteArray × Att => x.1)).drop k)) (HBK.out _ b4.out) (strs_one _) (by unfold maxLen; omega) (by omega) ?_
                        intro v5 w5 hs5 ho5 hv5
                        have b5 := hide (b4.out.trans (ho5.below b4.out.size fun i hi => V4.out i hi))
                        have E5 := hide hs5
                        have V5 := hide (show ∀ g, v5.ownBlock = some g → w0.heap.size ≤ g from fun g hg => by
                          rcases hv5 with e | e
                          · exact V4.out g (by rw [← e]; exact hg)
                          · rw [e] at hg
                            cases hg
                            exact b4.out.size)
                        clear hs5 ho5 hv5
                        refine hK _ _ (fun _ _ => HQ.out _ b5.out) ?_
                        clear hK K
                        try simp only [Act.put, List.setIfInBounds_toArray, List.set_cons_zero, List.set_cons_succ]
                        obtain ⟨Ax, cx, hvx, _⟩ := id E5.out.form
                        subst hvx
                        refine wpAnyD_takeW (i := 19) (oi := { dst := some 108, op := Op.nilCheck (Operand.tmp 89), type := 0, pos := "ref.go:106", after := #[{ on := 0, ground := Ground.data }, { on := 0, ground := Ground.phase }, { on := 1, ground := Ground.phase }, { on := 2, ground := Ground.phase }, { on := 3, ground := Ground.phase }, { on := 4, ground := Ground.phase }, { on := 5, ground := Ground.phase }, { on := 6, ground := Ground.phase }, { on := 7, ground := Ground.phase }, { on := 8, ground := Ground.phase }, { on := 9, ground := Ground.phase }, { on := 10, ground := Ground.phase }, { on := 11, ground := Ground.phase }, { on := 12, ground := Ground.phase }, { on := 13, ground := Ground.phase }, { on := 14, ground := Ground.phase }, { on := 15, ground := Ground.phase }, { on := 16, ground := Ground.phase }, { on := 17, ground := Ground.phase }, { on := 18, ground := Ground.phase }], guard := none }) (v := ?_) rfl (by kernel_rfl) (by kernel_rfl) (by kernel_rfl) (fun _ _ _ h => h) (Or.inl ⟨by rfl, ?_⟩) ?_
                        rotate_left
                        · intro w hSw
                          clear hSw
                          go_simp
                          all_goals with_reducible rfl
                        simp only [Act.put, List.setIfInBounds_toArray, List.set_cons_zero, List.set_cons_succ]
                        refine wpAnyD_takeW (i := 20) (oi := { dst := some 109, op := Op.fieldAddr 43 (Operand.tmp 108) 0, type := 0, pos := "ref.go:106", after := #[{ on := 19, ground := Ground.data }, { on := 0, ground := Ground.phase }, { on := 1, ground := Ground.phase }, { on := 2, ground := Ground.phase }, { on := 3, ground := Ground.phase }, { on := 4, ground := Ground.phase }, { on := 5, ground := Ground.phase }, { on := 6, ground := Ground.phase }, { on := 7, ground := Ground.phase }, { on := 8, ground := Ground.phase }, { on := 9, ground := Ground.phase }, { on := 10, ground := Ground.phase }, { on := 11, ground := Ground.phase }, { on := 12, ground := Ground.phase }, { on := 13, ground := Ground.phase }, { on := 14, ground := Ground.phase }, { on := 15, ground := Ground.phase }, { on := 16, ground := Ground.phase }, { on := 17, ground := Ground.phase }, { on := 18, ground := Ground.phase }], guard := none }) (v := ?_) rfl (by kernel_rfl) (by kernel_rfl) (by kernel_rfl) (fun _ _ _ h => h) (Or.inl ⟨by rfl, ?_⟩) ?_
                        rotate_left
                        · intro w hSw
                          clear hSw
                          go_simp
                          all_goals with_reducible rfl
                        simp only [Act.put, List.setIfInBounds_toArray, List.set_cons_zero, List.set_cons_succ]
                        have fz : w5.frozen? ⟨rb, 0, none⟩ = false := (H5.out.below b5.out).blk.frozen 0
                        have hS := HQ.out _ b5.out
                        refine wpAnyD_one (i := 21) (o := { dst := none, op := Op.store 39 (Operand.tmp 109) (Operand.tmp 107), type := 0, pos := "ref.go:106", after := #[{ on := 20, ground := Ground.data }, { on := 18, ground := Ground.data }, { on := 18, ground := Ground.chain }, { on := 0, ground := Ground.phase }, { on := 1, ground := Ground.phase }, { on := 2, ground := Ground.phase }, { on := 3, ground := Ground.phase }, { on := 4, ground := Ground.phase }, { on := 5, ground := Ground.phase }, { on := 6, ground := Ground.phase }, { on := 7, ground := Ground.phase }, { on := 8, ground := Ground.phase }, { on := 9, ground := Ground.phase }, { on := 10, ground := Ground.phase }, { on := 11, ground := Ground.phase }, { on := 12, ground := Ground.phase }, { on := 13, ground := Ground.phase }, { on := 14, ground := Ground.phase }, { on := 15, ground := Ground.phase }, { on := 16, ground := Ground.phase }, { on := 17, ground := Ground.phase }, { on := 18, ground := Ground.phase }], guard := none }) (by kernel_rfl) rfl (fun K hK => ?_)
                        go_simp
                        refine hK _ _ (fun h => by cases h) ?_
                        clear hK K
                        try simp only [Act.put, List.setIfInBounds_toArray, List.set_cons_zero, List.set_cons_succ]
                        refine wpAnyD_done (by kernel_rfl) ?_ _
                        go_wp2_with fail
                        all_goals go_meet
                        all_goals exact ⟨_, H5.out.setN b5.out (HFIN.out _ _ E5.out) V5.out⟩
                    case rest =>
                      obtain ⟨vN, h6⟩ := hcut
                      have H6 := hide h6
                      clear h6 H4 HST HFIN
                      have HFIN := hide (fun (w' : World) (v' : Value) => fin_atts (w := w') (v := v') (n := n) (a := a) (L := L) (k := k) (n0 := n0) HL.out hk)
                      go_wp2_with fail
                      have H5 := hide (H6.out.below (Below.refl _ _).drew)
                      refine wp_region_d (S := fun w' => w'.cell? ⟨rb, 1, none⟩ = some (.slice (some ⟨g2, off2, none⟩) n0 d) ∧ w'.cell? ⟨w.heap.size, 0, none⟩ = some (.int .i64 a.fo) ∧ w'.cell? ⟨w.heap.size, 1, none⟩ = some (.int .i64 a.ba) ∧ w'.cell? ⟨w.heap.size, 2, none⟩ = some (.int .i64 a.bo) ∧ w'.cell? ⟨w.heap.size, 3, none⟩ = some (.int .i64 a.un) ∧ w'.cell? ⟨w.heap.size, 4, none⟩ = some (.int .i64 a.iv) ∧ w'.cell? ⟨w.heap.size, 5, none⟩ = some (.string a.inh)) (D := [21]) (by kernel_rfl) ?_
                      change wpAnyD _ _ _ _ _ _ _ _ _ wc.drew
                      generalize wc.drew = w0 at H5 ⊢
                      have b0 := hide (Below.refl w0.heap.size w0)
                      have HQ := hide (show ∀ w', Below w0.heap.size w0 w' → w'.cell? ⟨rb, 1, none⟩ = some (.slice (some ⟨g2, off2, none⟩) n0 d) ∧ w'.cell? ⟨w.heap.size, 0, none⟩ = some (.int .i64 a.fo) ∧ w'.cell? ⟨w.heap.size, 1, none⟩ = some (.int .i64 a.ba) ∧ w'.cell? ⟨w.heap.size, 2, none⟩ = some (.int .i64 a.bo) ∧ w'.cell? ⟨w.heap.size, 3, none⟩ = some (.int .i64 a.un) ∧ w'.cell? ⟨w.heap.size, 4, none⟩ = some (.int .i64 a.iv) ∧ w'.cell? ⟨w.heap.size, 5, none⟩ = some (.string a.inh) from fun w' hb => by
                        have h := H5.out.below hb
                        obtain ⟨a0, a1, a2, a3, a4, a5⟩ := h.boxAt
                        exact ⟨by rw [h.blk.cell]; rfl, a0, a1, a2, a3, a4, a5⟩)
                      have HFT := hide (show ∀ w', Below w0.heap.size w0 w' → Rd w' (.slice (some ⟨g2, off2, none⟩) k d) 6 k (rows Att.cells ((L.map (·.2)).take k)) from fun w' hb => by
                        have h1 := (H5.out.slA.rd).belowF hb
                        rw [List.length_map, HL.out] at h1
                        rw [← rows_take att_len]
                        exact h1.front hk d)
                      have HBK := hide (show ∀ w', Below w0.heap.size w0 w' → Rd w' (.slice (if d = k then some ⟨g2, off2, none⟩ else some ⟨g2, off2 + k * 6, none⟩) (n0 - k) (d - k)) 6 (n0 - k) (rows Att.cells ((L.map (·.2)).drop k)) from fun w' hb => by
                        have h1 := (H5.out.slA.rd).belowF hb
                        rw [List.length_map, HL.out] at h1
                        rw [← rows_drop att_len]
                        exact h1.back_if hk hnd (d - k))
                      obtain ⟨i0, hi, hz0, hz1, hz2⟩ := info_parts info_att
                      have hS := HQ.out _ b0.out
                      refine wpAnyD_takeW (i := 0) (oi := { dst := some 110, op := Op.move (Operand.tmp 0), type := 32, pos := "ref.go:107", after := #[], guard := none }) (v := ?_) rfl (by kernel_rfl) (by kernel_rfl) (by kernel_rfl) (fun _ _ _ h => h) (Or.inl ⟨by rfl, ?_⟩) ?_
                      rotate_left
                      · intro w hSw
                        clear hSw
                        go_simp
                        all_goals with_reducible rfl
                      simp only [Act.put, List.setIfInBounds_toArray, List.set_cons_zero, List.set_cons_succ]
                      refine wpAnyD_takeW (i := 2) (oi := { dst := some 112, op := Op.move (Operand.tmp 0), type := 32, pos := "ref.go:107", after := #[], guard := none }) (v := ?_) rfl (by kernel_rfl) (by kernel_rfl) (by kernel_rfl) (fun _ _ _ h => h) (Or.inl ⟨by rfl, ?_⟩) ?_
                      rotate_left
                      · intro w hSw
                        clear hSw
                        go_simp
                        all_goals with_reducible rfl
                      simp only [Act.put, List.setIfInBounds_toArray, List.set_cons_zero, List.set_cons_succ]
                      refine wpAnyD_takeW (i := 3) (oi := { dst := some 113, op := Op.nilCheck (Operand.tmp 112), type := 0, pos := "ref.go:107", after := #[{ on := 2, ground := Ground.data }], guard := none }) (v := ?_) rfl (by kernel_rfl) (by kernel_rfl) (by kernel_rfl) (fun _ _ _ h => h) (Or.inl ⟨by rfl, ?_⟩) ?_
                      rotate_left
                      · intro w hSw
                        clear hSw
                        go_simp
                        all_goals with_reducible rfl
                      simp only [Act.put, List.setIfInBounds_toArray, List.set_cons_zero, List.set_cons_succ]
                      refine wpAnyD_takeW (i := 4) (oi := { dst := some 114, op := Op.fieldAddr 43 (Operand.tmp 113) 1, type := 0, pos := "ref.go:107", after := #[{ on := 3, ground := Ground.data }], guard := none }) (v := ?_) rfl (by kernel_rfl) (by kernel_rfl) (by kernel_rfl) (fun _ _ _ h => h) (Or.inl ⟨by rfl, ?_⟩) ?_
                      rotate_left
                      · intro w hSw
                        clear hSw
                        go_simp
                        all_goals with_reducible rfl
                      simp only [Act.put, List.setIfInBounds_toArray, List.set_cons_zero, List.set_cons_succ]
                      refine wpAnyD_take (i := 5) (oi := { dst := some 115, op := Op.load 41 (Operand.tmp 114), type := 41, pos := "ref.go:107", after := #[{ on := 4, ground := Ground.data }], guard := none }) (v := ?_) rfl (by kernel_rfl) (by kernel_rfl) (by kernel_rfl) (by kernel_rfl) (by kernel_rfl) (fun _ _ _ h => h) (Or.inl ⟨by rfl, ?_⟩) hS ?_
                      rotate_left
                      · intro w hSw
                        (try dsimp only at hSw)
                        (try go_split_ands)
                        go_simp
                        all_goals with_reducible rfl
                      simp only [Act.put, List.setIfInBounds_toArray, List.set_cons_zero, List.set_cons_succ]
                      refine wpAnyD_takeW (i := 6) (oi := { dst := some 116, op := Op.move (Operand.tmp 8), type := 3, pos := "ref.go:107", after := #[], guard := none }) (v := ?_) rfl (by kernel_rfl) (by kernel_rfl) (by kernel_rfl) (fun _ _ _ h => h) (Or.inl ⟨by rfl, ?_⟩) ?_
                      rotate_left
                      · intro w hSw
                        clear hSw
                        go_simp
                        all_goals with_reducible rfl
                      simp only [Act.put, List.setIfInBounds_toArray, List.set_cons_zero, List.set_cons_succ]
                      refine wpAnyD_takeW (i := 7) (oi := { dst := some 117, op := Op.slice 41 (Operand.tmp 115) none (some (Operand.tmp 116)) none, type := 41, pos := "ref.go:107", after := #[{ on := 5, ground := Ground.data }, { on := 6, ground := Ground.data }], guard := none }) (v := ?_) rfl (by kernel_rfl) (by kernel_rfl) (by kernel_rfl) (fun _ _ _ h => h) (Or.inl ⟨by rfl, ?_⟩) ?_
                      rotate_left
                      · intro w hSw
                        clear hSw
                        go_simp
                        all_goals with_reducible rfl
                      simp only [Act.put, List.setIfInBounds_toArray, List.set_cons_zero, List.set_cons_succ]
                      refine wpAnyD_take (i := 9) (oi := { dst := some 119, op := Op.load 23 (Operand.tmp 5), type := 23, pos := "ref.go:107", after := #[], guard := none }) (v := ?_) rfl (by kernel_rfl) (by kernel_rfl) (by kernel_rfl) (by kernel_rfl) (by kernel_rfl) (fun _ _ _ h => h) (Or.inl ⟨by rfl, ?_⟩) hS ?_
                      rotate_left
                      · intro w hSw
                        (try dsimp only at hSw)
                        (try go_split_ands)
                        go_simp
                        all_goals with_reducible rfl
                      simp only [Act.put, List.setIfInBounds_toArray, List.set_cons_zero, List.set_cons_succ]
                      refine wpAnyD_takeW (i := 12) (oi := { dst := some 122, op := Op.move (Operand.tmp 0), type := 32, pos := "ref.go:107", after := #[], guard := none }) (v := ?_) rfl (by kernel_rfl) (by kernel_rfl) (by kernel_rfl) (fun _ _ _ h => h) (Or.inl ⟨by rfl, ?_⟩) ?_
                      rotate_left
                      · intro w hSw
                        clear hSw
                        go_simp
                        all_goals with_reducible rfl
                      simp only [Act.put, List.setIfInBounds_toArray, List.set_cons_zero, List.set_cons_succ]
                      refine wpAnyD_takeW (i := 13) (oi := { dst := some 123, op := Op.nilCheck (Operand.tmp 122), type := 0, pos := "ref.go:107", after := #[{ on := 12, ground := Ground.data }], guard := none }) (v := ?_) rfl (by kernel_rfl) (by kernel_rfl) (by kernel_rfl) (fun _ _ _ h => h) (Or.inl ⟨by rfl, ?_⟩) ?_
                      rotate_left
                      · intro w hSw
                        clear hSw
                        go_simp
                        all_goals with_reducible rfl
                      simp only [Act.put, List.setIfInBounds_toArray, List.set_cons_zero, List.set_cons_succ]
                      refine wpAnyD_takeW (i := 14) (oi := { dst := some 124, op := Op.fieldAddr 43 (Operand.tmp 123) 1, type := 0, pos := "ref.go:107", after := #[{ on := 13, ground := Ground.data }], guard := none }) (v := ?_) rfl (by kernel_rfl) (by kernel_rfl) (by kernel_rfl) (fun _ _ _ h => h) (Or.inl ⟨by rfl, ?_⟩) ?_
                      rotate_left
                      · intro w hSw
                        clear hSw
                        go_simp
                        all_goals with_reducible rfl
                      simp only [Act.put, List.setIfInBounds_toArray, List.set_cons_zero, List.set_cons_succ]
                      refine wpAnyD_take (i := 15) (oi := { dst := some 125, op := Op.load 41 (Operand.tmp 124), type := 41, pos := "ref.go:107", after := #[{ on := 14, ground := Ground.data }], guard := none }) (v := ?_) rfl (by kernel_rfl) (by kernel_rfl) (by kernel_rfl) (by kernel_rfl) (by kernel_rfl) (fun _ _ _ h => h) (Or.inl ⟨by rfl, ?_⟩) hS ?_
                      rotate_left
                      · intro w hSw
                        (try dsimp only at hSw)
                        (try go_split_ands)
                        go_simp
                        all_goals with_reducible rfl
                      simp only [Act.put, List.setIfInBounds_toArray, List.set_cons_zero, List.set_cons_succ]
                      refine wpAnyD_takeW (i := 16) (oi := { dst := some 126, op := Op.move (Operand.tmp 8), type := 3, pos := "ref.go:107", after := #[], guard := none }) (v := ?_) rfl (by kernel_rfl) (by kernel_rfl) (by kernel_rfl) (fun _ _ _ h => h) (Or.inl ⟨by rfl, ?_⟩) ?_
                      rotate_left
                      · intro w hSw
                        clear hSw
                        go_simp
                        all_goals with_reducible rfl
                      simp only [Act.put, List.setIfInBounds_toArray, List.set_cons_zero, List.set_cons_succ]
                      refine wpAnyD_takeW (i := 17) (oi := { dst := some 127, op := Op.slice 41 (Operand.tmp 125) (some (Operand.tmp 126)) none none, type := 41, pos := "ref.go:107", after := #[{ on := 15, ground := Ground.data }, { on := 16, ground := Ground.data }], guard := none }) (v := ?_) rfl (by kernel_rfl) (by kernel_rfl) (by kernel_rfl) (fun _ _ _ h => h) (Or.inl ⟨by rfl, ?_⟩) ?_
                      rotate_left
                      · intro w hSw
                        clear hSw
                        go_simp
                        all_goals with_reducible rfl
                      simp only [Act.put, List.setIfInBounds_toArray, List.set_cons_zero, List.set_cons_succ]
                      clear hS
                      refine wpAnyD_two (i := 1) (j := 10) (o := { dst := some 111, op := Op.buildSlice 41 0 #[], type := 41, pos := "ref.go:107", after := #[], guard := none }) (p := { dst := some 120, op := Op.buildSlice 41 1 #[(0, Operand.tmp 119)], type := 41, pos := "ref.go:107", after := #[{ on := 9, ground := Ground.data }], guard := none }) (by kernel_rfl) rfl rfl (fun K hK => ?_) (fun K hK => ?_)
                      · have b1 := hide (b0.out.alloc b0.out.size (.cells #[] 23))
                        have E1 := hide (show Sl (w0.alloc (.cells #[] 23)) 23 6 (.slice (some ⟨w0.heap.size, 0, none⟩) 0 0) 0 [] by simpa only [World.size_alloc] using (show Sl (w0.alloc (.cells #[] 23)) 23 6 (.slice (some ⟨w0.heap.size, 0, none⟩) 0 0) 0 [] from Sl.new w0 23 6 #[] 0 0 (Nat.le_refl _) (Nat.zero_le _) (Nat.le_refl _)))
                        have V1 := hide (show ∀ g, (Value.slice (some ⟨w0.heap.size, 0, none⟩) 0 0).ownBlock = some g → w0.heap.size ≤ g from fun g hg => by
                          cases hg
                          have := b0.out.size
                          simpa only [World.size_alloc] using this)
                        go_simp
                        refine hK _ _ (fun _ _ => HQ.out _ b1.out) ?_
                        clear hK K
                        try simp only [Act.put, List.setIfInBounds_toArray, List.set_cons_zero, List.set_cons_succ]
                        refine wpAnyD_two (i := 8) (j := 10) (o := { dst := some 118, op := Op.call { callee := Callee.builtin Builtin.append, args := #[Operand.tmp 111, Operand.tmp 117], argTypes := #[41, 41] }, type := 41, pos := "ref.go:107", after := #[{ on := 1, ground := Ground.data }, { on := 7, ground := Ground.data }], guard := none }) (p := { dst := some 120, op := Op.buildSlice 41 1 #[(0, Operand.tmp 119)], type := 41, pos := "ref.go:107", after := #[{ on := 9, ground := Ground.data }], guard := none }) (by kernel_rfl) rfl rfl (fun K hK => ?_) (fun K hK => ?_)
                        · refine step_append_w (by rfl) (.tmp 111) (.tmp 117) 41 rfl 23 i0 _ 6 56 Try.underlying41 hi hz0 hz1 hz2 rfl (.slice (some ⟨w0.heap.size, 0, none⟩) 0 0) (0) ([]) rfl E1.out _ rfl k (rows Att.cells ((L.map (fun x : ByteArray × Att => x.2)).take k)) (HFT.out _ b1.out) (att_one _) (by unfold maxLen; omega) (by omega) ?_
                          intro v2 w2 hs2 ho2 hv2
                          rw [Nat.zero_add, List.nil_append] at hs2
                          have b2 := hide (b1.out.trans (ho2.below b1.out.size fun i hi => V1.out i hi))
                          have E2 := hide hs2
                          have V2 := hide (show ∀ g, v2.ownBlock = some g → w0.heap.size ≤ g from fun g hg => by
                            rcases hv2 with e | e
                            · exact V1.out g (by rw [← e]; exact hg)
                            · rw [e] at hg
                              cases hg
                              exact b1.out.size)
                          clear hs2 ho2 hv2
                          refine hK _ _ (fun _ _ => HQ.out _ b2.out) ?_
                          clear hK K
                          try simp only [Act.put, List.setIfInBounds_toArray, List.set_cons_zero, List.set_cons_succ]
                          refine wpAnyD_one (i := 10) (o := { dst := some 120, op := Op.buildSlice 41 1 #[(0, Operand.tmp 119)], type := 41, pos := "ref.go:107", after := #[{ on := 9, ground := Ground.data }], guard := none }) (by kernel_rfl) rfl (fun K hK => ?_)
                          have b3 := hide (b2.out.alloc b2.out.size (.cells #[.int .i64 a.fo, .int .i64 a.ba, .int .i64 a.bo, .int .i64 a.un, .int .i64 a.iv, .string a.inh] 23))
                          have RD3 := hide (show Rd (w2.alloc (.cells #[.int .i64 a.fo, .int .i64 a.ba, .int .i64 a.bo, .int .i64 a.un, .int .i64 a.iv, .string a.inh] 23)) (.slice (some ⟨w2.heap.size, 0, none⟩) 1 1) 6 1 (Att.cells a) by simpa only [World.size_alloc] using (show Rd (w2.alloc (.cells #[.int .i64 a.fo, .int .i64 a.ba, .int .i64 a.bo, .int .i64 a.un, .int .i64 a.iv, .string a.inh] 23)) (.slice (some ⟨w2.heap.size, 0, none⟩) 1 1) 6 1 (Att.cells a) from rd_elem w2 23 6 (Att.cells a) rfl))
                          have E3 := hide (E2.out.alloc (.cells #[.int .i64 a.fo, .int .i64 a.ba, .int .i64 a.bo, .int .i64 a.un, .int .i64 a.iv, .string a.inh] 23))
                          go_simp
                          refine hK _ _ (fun _ _ => HQ.out _ b3.out) ?_
                          clear hK K
                          try simp only [Act.put, List.setIfInBounds_toArray, List.set_cons_zero, List.set_cons_succ]
                          refine wpAnyD_one (i := 11) (o := { dst := some 121, op := Op.call { callee := Callee.builtin Builtin.append, args := #[Operand.tmp 118, Operand.tmp 120], argTypes := #[41, 41] }, type := 41, pos := "ref.go:107", after := #[{ on := 8, ground := Ground.data }, { on := 10, ground := Ground.data }, { on := 8, ground := Ground.chain }], guard := none }) (by kernel_rfl) rfl (fun K hK => ?_)
                          refine step_append_w (by rfl) (.tmp 118) (.tmp 120) 41 rfl 23 i0 _ 6 56 Try.underlying41 hi hz0 hz1 hz2 rfl v2 (k) (rows Att.cells ((L.map (fun x : ByteArray × Att => x.2)).take k)) rfl E3.out _ rfl 1 ((Att.cells a)) (RD3.out) (att_one1 a) (by unfold maxLen; omega) (by omega) ?_
                          intro v4 w4 hs4 ho4 hv4
                          have b4 := hide (b3.out.trans (ho4.below b3.out.size fun i hi => V2.out i hi))
                          have E4 := hide hs4
                          have V4 := hide (show ∀ g, v4.ownBlock = some g → w0.heap.size ≤ g from fun g hg => by
                            rcases hv4 with e | e
                            · exact V2.out g (by rw [← e]; exact hg)
                            · rw [e] at hg
                              cases hg
                              exact b3.out.size)
                          clear hs4 ho4 hv4
                          refine hK _ _ (fun _ _ => HQ.out _ b4.out) ?_
                          clear hK K
                          try simp only [Act.put, List.setIfInBounds_toArray, List.set_cons_zero, List.set_cons_succ]
                          refine wpAnyD_one (i := 18) (o := { dst := some 128, op := Op.call { callee := Callee.builtin Builtin.append, args := #[Operand.tmp 121, Operand.tmp 127], argTypes := #[41, 41] }, type := 41, pos := "ref.go:107", after := #[{ on := 11, ground := Ground.data }, { on := 17, ground := Ground.data }, { on := 11, ground := Ground.chain }], guard := none }) (by kernel_rfl) rfl (fun K hK => ?_)
                          refine step_append_w (by rfl) (.tmp 121) (.tmp 127) 41 rfl 23 i0 _ 6 56 Try.underlying41 hi hz0 hz1 hz2 rfl v4 (k + 1) (rows Att.cells ((L.map (fun x : ByteArray × Att => x.2)).take k) ++ (Att.cells a)) rfl E4.out _ rfl (n0 - k) (rows Att.cells ((L.map (fun x : ByteArray × Att => x.2)).drop k)) (HBK.out _ b4.out) (att_one _) (by unfold maxLen; omega) (by omega) ?_
                          intro v5 w5 hs5 ho5 hv5
                          have b5 := hide (b4.out.trans (ho5.below b4.out.size fun i hi => V4.out i hi))
                          have E5 := hide hs5
                          have V5 := hide (show ∀ g, v5.ownBlock = some g → w0.heap.size ≤ g from fun g hg => by
                            rcases hv5 with e | e
                            · exact V4.out g (by rw [← e]; exact hg)
                            · rw [e] at hg
                              cases hg
                              exact b4.out.size)
                          clear hs5 ho5 hv5
                          refine hK _ _ (fun _ _ => HQ.out _ b5.out) ?_
                          clear hK K
                          try simp only [Act.put, List.setIfInBounds_toArray, List.set_cons_zero, List.set_cons_succ]
                          obtain ⟨Ax, cx, hvx, _⟩ := id E5.out.form
                          subst hvx
                          refine wpAnyD_takeW (i := 19) (oi := { dst := some 129, op := Op.nilCheck (Operand.tmp 110), type := 0, pos := "ref.go:107", after := #[{ on := 0, ground := Ground.data }, { on := 0, ground := Ground.phase }, { on := 1, ground := Ground.phase }, { on := 2, ground := Ground.phase }, { on := 3, ground := Ground.phase }, { on := 4, ground := Ground.phase }, { on := 5, ground := Ground.phase }, { on := 6, ground := Ground.phase }, { on := 7, ground := Ground.phase }, { on := 8, ground := Ground.phase }, { on := 9, ground := Ground.phase }, { on := 10, ground := Ground.phase }, { on := 11, ground := Ground.phase }, { on := 12, ground := Ground.phase }, { on := 13, ground := Ground.phase }, { on := 14, ground := Ground.phase }, { on := 15, ground := Ground.phase }, { on := 16, ground := Ground.phase }, { on := 17, ground := Ground.phase }, { on := 18, ground := Ground.phase }], guard := none }) (v := ?_) rfl (by kernel_rfl) (by kernel_rfl) (by kernel_rfl) (fun _ _ _ h => h) (Or.inl ⟨by rfl, ?_⟩) ?_
                          rotate_left
                          · intro w hSw
                            clear hSw
                            go_simp
                            all_goals with_reducible rfl
                          simp only [Act.put, List.setIfInBounds_toArray, List.set_cons_zero, List.set_cons_succ]
                          refine wpAnyD_takeW (i := 20) (oi := { dst := some 130, op := Op.fieldAddr 43 (Operand.tmp 129) 1, type := 0, pos := "ref.go:107", after := #[{ on := 19, ground := Ground.data }, { on := 0, ground := Ground.phase }, { on := 1, ground := Ground.phase }, { on := 2, ground := Ground.phase }, { on := 3, ground := Ground.phase }, { on := 4, ground := Ground.phase }, { on := 5, ground := Ground.phase }, { on := 6, ground := Ground.phase }, { on := 7, ground := Ground.phase }, { on := 8, ground := Ground.phase }, { on := 9, ground := Ground.phase }, { on := 10, ground := Ground.phase }, { on := 11, ground := Ground.phase }, { on := 12, ground := Ground.phase }, { on := 13, ground := Ground.phase }, { on := 14, ground := Ground.phase }, { on := 15, ground := Ground.phase }, { on := 16, ground := Ground.phase }, { on := 17, ground := Ground.phase }, { on := 18, ground := Ground.phase }], guard := none }) (v := ?_) rfl (by kernel_rfl) (by kernel_rfl) (by kernel_rfl) (fun _ _ _ h => h) (Or.inl ⟨by rfl, ?_⟩) ?_
                          rotate_left
                          · intro w hSw
                            clear hSw
                            go_simp
                            all_goals with_reducible rfl
                          simp only [Act.put, List.setIfInBounds_toArray, List.set_cons_zero, List.set_cons_succ]
                          have fz : w5.frozen? ⟨rb, 1, none⟩ = false := (H5.out.below b5.out).blk.frozen 1
                          have hS := HQ.out _ b5.out
                          refine wpAnyD_one (i := 21) (o := { dst := none, op := Op.store 41 (Operand.tmp 130) (Operand.tmp 128), type := 0, pos := "ref.go:107", after := #[{ on := 20, ground := Ground.data }, { on := 18, ground := Ground.data }, { on := 18, ground := Ground.chain }, { on := 0, ground := Ground.phase }, { on := 1, ground := Ground.phase }, { on := 2, ground := Ground.phase }, { on := 3, ground := Ground.phase }, { on := 4, ground := Ground.phase }, { on := 5, ground := Ground.phase }, { on := 6, ground := Ground.phase }, { on := 7, ground := Ground.phase }, { on := 8, ground := Ground.phase }, { on := 9, ground := Ground.phase }, { on := 10, ground := Ground.phase }, { on := 11, ground := Ground.phase }, { on := 12, ground := Ground.phase }, { on := 13, ground := Ground.phase }, { on := 14, ground := Ground.phase }, { on := 15, ground := Ground.phase }, { on := 16, ground := Ground.phase }, { on := 17, ground := Ground.phase }, { on := 18, ground := Ground.phase }], guard := none }) (by kernel_rfl) rfl (fun K hK => ?_)
                          go_simp
                          refine hK _ _ (fun h => by cases h) ?_
                          clear hK K
                          try simp only [Act.put, List.setIfInBounds_toArray, List.set_cons_zero, List.set_cons_succ]
                          refine wpAnyD_done (by kernel_rfl) ?_ _
                          go_wp2
                          all_goals go_ret
                          all_goals exact ⟨by rw [HE0.out]; rfl, _, _, L.take k ++ (n, a) :: L.drop k, (H5.out.setA b5.out (HFIN.out _ _ E5.out) V5.out).unbox, .inr (.inr ⟨HE0.out, HNO.out, k, by rw [HL.out]; exact HK.out.1, HK.out.2.1, HK.out.2.2, rfl⟩)⟩
                        · have b2 := hide (b1.out.alloc b1.out.size (.cells #[.int .i64 a.fo, .int .i64 a.ba, .int .i64 a.bo, .int .i64 a.un, .int .i64 a.iv, .string a.inh] 23))
                          have RD2 := hide (show Rd ((w0.alloc (.cells #[] 23)).alloc (.cells #[.int .i64 a.fo, .int .i64 a.ba, .int .i64 a.bo, .int .i64 a.un, .int .i64 a.iv, .string a.inh] 23)) (.slice (some ⟨w0.heap.size + 1, 0, none⟩) 1 1) 6 1 (Att.cells a) by simpa only [World.size_alloc] using (show Rd ((w0.alloc (.cells #[] 23)).alloc (.cells #[.int .i64 a.fo, .int .i64 a.ba, .int .i64 a.bo, .int .i64 a.un, .int .i64 a.iv, .string a.inh] 23)) (.slice (some ⟨(w0.alloc (.cells #[] 23)).heap.size, 0, none⟩) 1 1) 6 1 (Att.cells a) from rd_elem (w0.alloc (.cells #[] 23)) 23 6 (Att.cells a) rfl))
                          have E2 := hide (E1.out.alloc (.cells #[.int .i64 a.fo, .int .i64 a.ba, .int .i64 a.bo, .int .i64 a.un, .int .i64 a.iv, .string a.inh] 23))
                          go_simp
                          refine hK _ _ (fun _ _ => HQ.out _ b2.out) ?_
                          clear hK K
                          try simp only [Act.put, List.setIfInBounds_toArray, List.set_cons_zero, List.set_cons_succ]
                          refine wpAnyD_one (i := 8) (o := { dst := some 118, op := Op.call { callee := Callee.builtin Builtin.append, args := #[Operand.tmp 111, Operand.tmp 117], argTypes := #[41, 41] }, type := 41, pos := "ref.go:107", after := #[{ on := 1, ground := Ground.data }, { on := 7, ground := Ground.data }], guard := none }) (by kernel_rfl) rfl (fun K hK => ?_)
                          refine step_append_w (by rfl) (.tmp 111) (.tmp 117) 41 rfl 23 i0 _ 6 56 Try.underlying41 hi hz0 hz1 hz2 rfl (.slice (some ⟨w0.heap.size, 0, none⟩) 0 0) (0) ([]) rfl E2.out _ rfl k (rows Att.cells ((L.map (fun x : ByteArray × Att => x.2)).take k)) (HFT.out _ b2.out) (att_one _) (by unfold maxLen; omega) (by omega) ?_
                          intro v3 w3 hs3 ho3 hv3
                          rw [Nat.zero_add, List.nil_append] at hs3
                          have b3 := hide (b2.out.trans (ho3.below b2.out.size fun i hi => V1.out i hi))
                          have E3 := hide hs3
                          have V3 := hide (show ∀ g, v3.ownBlock = some g → w0.heap.size ≤ g from fun g hg => by
                            rcases hv3 with e | e
                            · exact V1.out g (by rw [← e]; exact hg)
                            · rw [e] at hg
                              cases hg
                              exact b2.out.size)
                          have RD3 := hide (RD2.out.only ho3 (fun g hg hF => by
                            cases hg
                            injection hF with hF
                            have : w0.heap.size = w0.heap.size + 1 := hF
                            omega))
                          clear hs3 ho3 hv3
                          refine hK _ _ (fun _ _ => HQ.out _ b3.out) ?_
                          clear hK K
                          try simp only [Act.put, List.setIfInBounds_toArray, List.set_cons_zero, List.set_cons_succ]
                          refine wpAnyD_one (i := 11) (o := { dst := some 121, op := Op.call { callee := Callee.builtin Builtin.append, args := #[Operand.tmp 118, Operand.tmp 120], argTypes := #[41, 41] }, type := 41, pos := "ref.go:107", after := #[{ on := 8, ground := Ground.data }, { on := 10, ground := Ground.data }, { on := 8, ground := Ground.chain }], guard := none }) (by kernel_rfl) rfl (fun K hK => ?_)
                          refine step_append_w (by rfl) (.tmp 118) (.tmp 120) 41 rfl 23 i0 _ 6 56 Try.underlying41 hi hz0 hz1 hz2 rfl v3 (k) (rows Att.cells ((L.map (fun x : ByteArray × Att => x.2)).take k)) rfl E3.out _ rfl 1 ((Att.cells a)) (RD3.out) (att_one1 a) (by unfold maxLen; omega) (by omega) ?_
                          intro v4 w4 hs4 ho4 hv4
                          have b4 := hide (b3.out.trans (ho4.below b3.out.size fun i hi => V3.out i hi))
                          have E4 := hide hs4
                          have V4 := hide (show ∀ g, v4.ownBlock = some g → w0.heap.size ≤ g from fun g hg => by
                            rcases hv4 with e | e
                            · exact V3.out g (by rw [← e]; exact hg)
                            · rw [e] at hg
                              cases hg
                              exact b3.out.size)
                          clear hs4 ho4 hv4
                          refine hK _ _ (fun _ _ => HQ.out _ b4.out) ?_
                          clear hK K
                          try simp only [Act.put, List.setIfInBounds_toArray, List.set_cons_zero, List.set_cons_succ]
                          refine wpAnyD_one (i := 18) (o := { dst := some 128, op := Op.call { callee := Callee.builtin Builtin.append, args := #[Operand.tmp 121, Operand.tmp 127], argTypes := #[41, 41] }, type := 41, pos := "ref.go:107", after := #[{ on := 11, ground := Ground.data }, { on := 17, ground := Ground.data }, { on := 11, ground := Ground.chain }], guard := none }) (by kernel_rfl) rfl (fun K hK => ?_)
                          refine step_append_w (by rfl) (.tmp 121) (.tmp 127) 41 rfl 23 i0 _ 6 56 Try.underlying41 hi hz0 hz1 hz2 rfl v4 (k + 1) (rows Att.cells ((L.map (fun x : ByteArray × Att => x.2)).take k) ++ (Att.cells a)) rfl E4.out _ rfl (n0 - k) (rows Att.cells ((L.map (fun x : ByteArray × Att => x.2)).drop k)) (HBK.out _ b4.out) (att_one _) (by unfold maxLen; omega) (by omega) ?_
                          intro v5 w5 hs5 ho5 hv5
                          have b5 := hide (b4.out.trans (ho5.below b4.out.size fun i hi => V4.out i hi))
                          have E5 := hide hs5
                          have V5 := hide (show ∀ g, v5.ownBlock = some g → w0.heap.size ≤ g from fun g hg => by
                            rcases hv5 with e | e
                            · exact V4.out g (by rw [← e]; exact hg)
                            · rw [e] at hg
                              cases hg
                              exact b4.out.size)
                          clear hs5 ho5 hv5
                          refine hK _ _ (fun _ _ => HQ.out _ b5.out) ?_
                          clear hK K
                          try simp only [Act.put, List.setIfInBounds_toArray, List.set_cons_zero, List.set_cons_succ]
                          obtain ⟨Ax, cx, hvx, _⟩ := id E5.out.form
                          subst hvx
                          refine wpAnyD_takeW (i := 19) (oi := { dst := some 129, op := Op.nilCheck (Operand.tmp 110), type := 0, pos := "ref.go:107", after := #[{ on := 0, ground := Ground.data }, { on := 0, ground := Ground.phase }, { on := 1, ground := Ground.phase }, { on := 2, ground := Ground.phase }, { on := 3, ground := Ground.phase }, { on := 4, ground := Ground.phase }, { on := 5, ground := Ground.phase }, { on := 6, ground := Ground.phase }, { on := 7, ground := Ground.phase }, { on := 8, ground := Ground.phase }, { on := 9, ground := Ground.phase }, { on := 10, ground := Ground.phase }, { on := 11, ground := Ground.phase }, { on := 12, ground := Ground.phase }, { on := 13, ground := Ground.phase }, { on := 14, ground := Ground.phase }, { on := 15, ground := Ground.phase }, { on := 16, ground := Ground.phase }, { on := 17, ground := Ground.phase }, { on := 18, ground := Ground.phase }], guard := none }) (v := ?_) rfl (by kernel_rfl) (by kernel_rfl) (by kernel_rfl) (fun _ _ _ h => h) (Or.inl ⟨by rfl, ?_⟩) ?_
                          rotate_left
                          · intro w hSw
                            clear hSw
                            go_simp
                            all_goals with_reducible rfl
                          simp only [Act.put, List.setIfInBounds_toArray, List.set_cons_zero, List.set_cons_succ]
                          refine wpAnyD_takeW (i := 20) (oi := { dst := some 130, op := Op.fieldAddr 43 (Operand.tmp 129) 1, type := 0, pos := "ref.go:107", after := #[{ on := 19, ground := Ground.data }, { on := 0, ground := Ground.phase }, { on := 1, ground := Ground.phase }, { on := 2, ground := Ground.phase }, { on := 3, ground := Ground.phase }, { on := 4, ground := Ground.phase }, { on := 5, ground := Ground.phase }, { on := 6, ground := Ground.phase }, { on := 7, ground := Ground.phase }, { on := 8, ground := Ground.phase }, { on := 9, ground := Ground.phase }, { on := 10, ground := Ground.phase }, { on := 11, ground := Ground.phase }, { on := 12, ground := Ground.phase }, { on := 13, ground := Ground.phase }, { on := 14, ground := Ground.phase }, { on := 15, ground := Ground.phase }, { on := 16, ground := Ground.phase }, { on := 17, ground := Ground.phase }, { on := 18, ground := Ground.phase }], guard := none }) (v := ?_) rfl (by kernel_rfl) (by kernel_rfl) (by kernel_rfl) (fun _ _ _ h => h) (Or.inl ⟨by rfl, ?_⟩) ?_
                          rotate_left
                          · intro w hSw
                            clear hSw
                            go_simp
                            all_goals with_reducible rfl
                          simp only [Act.put, List.setIfInBounds_toArray, List.set_cons_zero, List.set_cons_succ]
                          have fz : w5.frozen? ⟨rb, 1, none⟩ = false := (H5.out.below b5.out).blk.frozen 1
                          have hS := HQ.out _ b5.out
                          refine wpAnyD_one (i := 21) (o := { dst := none, op := Op.store 41 (Operand.tmp 130) (Operand.tmp 128), type := 0, pos := "ref.go:107", after := #[{ on := 20, ground := Ground.data }, { on := 18, ground := Ground.data }, { on := 18, ground := Ground.chain }, { on := 0, ground := Ground.phase }, { on := 1, ground := Ground.phase }, { on := 2, ground := Ground.phase }, { on := 3, ground := Ground.phase }, { on := 4, ground := Ground.phase }, { on := 5, ground := Ground.phase }, { on := 6, ground := Ground.phase }, { on := 7, ground := Ground.phase }, { on := 8, ground := Ground.phase }, { on := 9, ground := Ground.phase }, { on := 10, ground := Ground.phase }, { on := 11, ground := Ground.phase }, { on := 12, ground := Ground.phase }, { on := 13, ground := Ground.phase }, { on := 14, ground := Ground.phase }, { on := 15, ground := Ground.phase }, { on := 16, ground := Ground.phase }, { on := 17, ground := Ground.phase }, { on := 18, ground := Ground.phase }], guard := none }) (by kernel_rfl) rfl (fun K hK => ?_)
                          go_simp
                          refine hK _ _ (fun h => by cases h) ?_
                          clear hK K
                          try simp only [Act.put, List.setIfInBounds_toArray, List.set_cons_zero, List.set_cons_succ]
                          refine wpAnyD_done (by kernel_rfl) ?_ _
                          go_wp2
                          all_goals go_ret
                          all_goals exact ⟨by rw [HE0.out]; rfl, _, _, L.take k ++ (n, a) :: L.drop k, (H5.out.setA b5.out (HFIN.out _ _ E5.out) V5.out).unbox, .inr (.inr ⟨HE0.out, HNO.out, k, by rw [HL.out]; exact HK.out.1, HK.out.2.1, HK.out.2.2, rfl⟩)⟩
                      · have b1 := hide (b0.out.alloc b0.out.size (.cells #[.int .i64 a.fo, .int .i64 a.ba, .int .i64 a.bo, .int .i64 a.un, .int .i64 a.iv, .string a.inh] 23))
                        have RD1 := hide (show Rd (w0.alloc (.cells #[.int .i64 a.fo, .int .i64 a.ba, .int .i64 a.bo, .int .i64 a.un, .int .i64 a.iv, .string a.inh] 23)) (.slice (some ⟨w0.heap.size, 0, none⟩) 1 1) 6 1 (Att.cells a) by simpa only [World.size_alloc] using (show Rd (w0.alloc (.cells #[.int .i64 a.fo, .int .i64 a.ba, .int .i64 a.bo, .int .i64 a.un, .int .i64 a.iv, .string a.inh] 23)) (.slice (some ⟨w0.heap.size, 0, none⟩) 1 1) 6 1 (Att.cells a) from rd_elem w0 23 6 (Att.cells a) rfl))
                        go_simp
                        refine hK _ _ (fun _ _ => HQ.out _ b1.out) ?_
                        clear hK K
                        try simp only [Act.put, List.setIfInBounds_toArray, List.set_cons_zero, List.set_cons_succ]
                        refine wpAnyD_one (i := 1) (o := { dst := some 111, op := Op.buildSlice 41 0 #[], type := 41, pos := "ref.go:107", after := #[], guard := none }) (by kernel_rfl) rfl (fun K hK => ?_)
                        have b2 := hide (b1.out.alloc b1.out.size (.cells #[] 23))
                        have E2 := hide (show Sl ((w0.alloc (.cells #[.int .i64 a.fo, .int .i64 a.ba, .int .i64 a.bo, .int .i64 a.un, .int .i64 a.iv, .string a.inh] 23)).alloc (.cells #[] 23)) 23 6 (.slice (some ⟨w0.heap.size + 1, 0, none⟩) 0 0) 0 [] by simpa only [World.size_alloc] using (show Sl ((w0.alloc (.cells #[.int .i64 a.fo, .int .i64 a.ba, .int .i64 a.bo, .int .i64 a.un, .int .i64 a.iv, .string a.inh] 23)).alloc (.cells #[] 23)) 23 6 (.slice (some ⟨(w0.alloc (.cells #[.int .i64 a.fo, .int .i64 a.ba, .int .i64 a.bo, .int .i64 a.un, .int .i64 a.iv, .string a.inh] 23)).heap.size, 0, none⟩) 0 0) 0 [] from Sl.new (w0.alloc (.cells #[.int .i64 a.fo, .int .i64 a.ba, .int .i64 a.bo, .int .i64 a.un, .int .i64 a.iv, .string a.inh] 23)) 23 6 #[] 0 0 (Nat.le_refl _) (Nat.zero_le _) (Nat.le_refl _)))
                        have V2 := hide (show ∀ g, (Value.slice (some ⟨w0.heap.size + 1, 0, none⟩) 0 0).ownBlock = some g → w0.heap.size ≤ g from fun g hg => by
                          cases hg
                          have := b1.out.size
                          simpa only [World.size_alloc] using this)
                        have RD2 := hide (RD1.out.belowF ((Below.refl _ _).alloc (Nat.le_refl _) (.cells #[] 23)))
                        go_simp
                        refine hK _ _ (fun _ _ => HQ.out _ b2.out) ?_
                        clear hK K
                        try simp only [Act.put, List.setIfInBounds_toArray, List.set_cons_zero, List.set_cons_succ]
                        refine wpAnyD_one (i := 8) (o := { dst := some 118, op := Op.call { callee := Callee.builtin Builtin.append, args := #[Operand.tmp 111, Operand.tmp 117], argTypes := #[41, 41] }, type := 41, pos := "ref.go:107", after := #[{ on := 1, ground := Ground.data }, { on := 7, ground := Ground.data }], guard := none }) (by kernel_rfl) rfl (fun K hK => ?_)
                        refine step_append_w (by rfl) (.tmp 111) (.tmp 117) 41 rfl 23 i0 _ 6 56 Try.underlying41 hi hz0 hz1 hz2 rfl (.slice (some ⟨w0.heap.size + 1, 0, none⟩) 0 0) (0) ([]) rfl E2.out _ rfl k (rows Att.cells ((L.map (fun x : ByteArray × Att => x.2)).take k)) (HFT.out _ b2.out) (att_one _) (by unfold maxLen; omega) (by omega) ?_
                        intro v3 w3 hs3 ho3 hv3
                        rw [Nat.zero_add, List.nil_append] at hs3
                        have b3 := hide (b2.out.trans (ho3.below b2.out.size fun i hi => V2.out i hi))
                        have E3 := hide hs3
                        have V3 := hide (show ∀ g, v3.ownBlock = some g → w0.heap.size ≤ g from fun g hg => by
                          rcases hv3 with e | e
                          · exact V2.out g (by rw [← e]; exact hg)
                          · rw [e] at hg
                            cases hg
                            exact b2.out.size)
                        have RD3 := hide (RD2.out.only ho3 (fun g hg hF => by
                          cases hg
                          injection hF with hF
                          have : w0.heap.size + 1 = w0.heap.size := hF
                          omega))
                        clear hs3 ho3 hv3
                        refine hK _ _ (fun _ _ => HQ.out _ b3.out) ?_
                        clear hK K
                        try simp only [Act.put, List.setIfInBounds_toArray, List.set_cons_zero, List.set_cons_succ]
                        refine wpAnyD_one (i := 11) (o := { dst := some 121, op := Op.call { callee := Callee.builtin Builtin.append, args := #[Operand.tmp 118, Operand.tmp 120], argTypes := #[41, 41] }, type := 41, pos := "ref.go:107", after := #[{ on := 8, ground := Ground.data }, { on := 10, ground := Ground.data }, { on := 8, ground := Ground.chain }], guard := none }) (by kernel_rfl) rfl (fun K hK => ?_)
                        refine step_append_w (by rfl) (.tmp 118) (.tmp 120) 41 rfl 23 i0 _ 6 56 Try.underlying41 hi hz0 hz1 hz2 rfl v3 (k) (rows Att.cells ((L.map (fun x : ByteArray × Att => x.2)).take k)) rfl E3.out _ rfl 1 ((Att.cells a)) (RD3.out) (att_one1 a) (by unfold maxLen; omega) (by omega) ?_
                        intro v4 w4 hs4 ho4 hv4
                        have b4 := hide (b3.out.trans (ho4.below b3.out.size fun i hi => V3.out i hi))
                        have E4 := hide hs4
                        have V4 := hide (show ∀ g, v4.ownBlock = some g → w0.heap.size ≤ g from fun g hg => by
                          rcases hv4 with e | e
                          · exact V3.out g (by rw [← e]; exact hg)
                          · rw [e] at hg
                            cases hg
                            exact b3.out.size)
                        clear hs4 ho4 hv4
                        refine hK _ _ (fun _ _ => HQ.out _ b4.out) ?_
                        clear hK K
                        try simp only [Act.put, List.setIfInBounds_toArray, List.set_cons_zero, List.set_cons_succ]
                        refine wpAnyD_one (i := 18) (o := { dst := some 128, op := Op.call { callee := Callee.builtin Builtin.append, args := #[Operand.tmp 121, Operand.tmp 127], argTypes := #[41, 41] }, type := 41, pos := "ref.go:107", after := #[{ on := 11, ground := Ground.data }, { on := 17, ground := Ground.data }, { on := 11, ground := Ground.chain }], guard := none }) (by kernel_rfl) rfl (fun K hK => ?_)
                        refine step_append_w (by rfl) (.tmp 121) (.tmp 127) 41 rfl 23 i0 _ 6 56 Try.underlying41 hi hz0 hz1 hz2 rfl v4 (k + 1) (rows Att.cells ((L.map (fun x : ByteArray × Att => x.2)).take k) ++ (Att.cells a)) rfl E4.out _ rfl (n0 - k) (rows Att.cells ((L.map (fun x : ByteArray × Att => x.2)).drop k)) (HBK.out _ b4.out) (att_one _) (by unfold maxLen; omega) (by omega) ?_
                        intro v5 w5 hs5 ho5 hv5
                        have b5 := hide (b4.out.trans (ho5.below b4.out.size fun i hi => V4.out i hi))
                        have E5 := hide hs5
                        have V5 := hide (show ∀ g, v5.ownBlock = some g → w0.heap.size ≤ g from fun g hg => by
                          rcases hv5 with e | e
                          · exact V4.out g (by rw [← e]; exact hg)
                          · rw [e] at hg
                            cases hg
                            exact b4.out.size)
                        clear hs5 ho5 hv5
                        refine hK _ _ (fun _ _ => HQ.out _ b5.out) ?_
                        clear hK K
                        try simp only [Act.put, List.setIfInBounds_toArray, List.set_cons_zero, List.set_cons_succ]
                        obtain ⟨Ax, cx, hvx, _⟩ := id E5.out.form
                        subst hvx
                        refine wpAnyD_takeW (i := 19) (oi := { dst := some 129, op := Op.nilCheck (Operand.tmp 110), type := 0, pos := "ref.go:107", after := #[{ on := 0, ground := Ground.data }, { on := 0, ground := Ground.phase }, { on := 1, ground := Ground.phase }, { on := 2, ground := Ground.phase }, { on := 3, ground := Ground.phase }, { on := 4, ground := Ground.phase }, { on := 5, ground := Ground.phase }, { on := 6, ground := Ground.phase }, { on := 7, ground := Ground.phase }, { on := 8, ground := Ground.phase }, { on := 9, ground := Ground.phase }, { on := 10, ground := Ground.phase }, { on := 11, ground := Ground.phase }, { on := 12, ground := Ground.phase }, { on := 13, ground := Ground.phase }, { on := 14, ground := Ground.phase }, { on := 15, ground := Ground.phase }, { on := 16, ground := Ground.phase }, { on := 17, ground := Ground.phase }, { on := 18, ground := Ground.phase }], guard := none }) (v := ?_) rfl (by kernel_rfl) (by kernel_rfl) (by kernel_rfl) (fun _ _ _ h => h) (Or.inl ⟨by rfl, ?_⟩) ?_
                        rotate_left
                        · intro w hSw
                          clear hSw
                          go_simp
                          all_goals with_reducible rfl
                        simp only [Act.put, List.setIfInBounds_toArray, List.set_cons_zero, List.set_cons_succ]
                        refine wpAnyD_takeW (i := 20) (oi := { dst := some 130, op := Op.fieldAddr 43 (Operand.tmp 129) 1, type := 0, pos := "ref.go:107", after := #[{ on := 19, ground := Ground.data }, { on := 0, ground := Ground.phase }, { on := 1, ground := Ground.phase }, { on := 2, ground := Ground.phase }, { on := 3, ground := Ground.phase }, { on := 4, ground := Ground.phase }, { on := 5, ground := Ground.phase }, { on := 6, ground := Ground.phase }, { on := 7, ground := Ground.phase }, { on := 8, ground := Ground.phase }, { on := 9, ground := Ground.phase }, { on := 10, ground := Ground.phase }, { on := 11, ground := Ground.phase }, { on := 12, ground := Ground.phase }, { on := 13, ground := Ground.phase }, { on := 14, ground := Ground.phase }, { on := 15, ground := Ground.phase }, { on := 16, ground := Ground.phase }, { on := 17, ground := Ground.phase }, { on := 18, ground := Ground.phase }], guard := none }) (v := ?_) rfl (by kernel_rfl) (by kernel_rfl) (by kernel_rfl) (fun _ _ _ h => h) (Or.inl ⟨by rfl, ?_⟩) ?_
                        rotate_left
                        · intro w hSw
                          clear hSw
                          go_simp
                          all_goals with_reducible rfl
                        simp only [Act.put, List.setIfInBounds_toArray, List.set_cons_zero, List.set_cons_succ]
                        have fz : w5.frozen? ⟨rb, 1, none⟩ = false := (H5.out.below b5.out).blk.frozen 1
                        have hS := HQ.out _ b5.out
                        refine wpAnyD_one (i := 21) (o := { dst := none, op := Op.store 41 (Operand.tmp 130) (Operand.tmp 128), type := 0, pos := "ref.go:107", after := #[{ on := 20, ground := Ground.data }, { on := 18, ground := Ground.data }, { on := 18, ground := Ground.chain }, { on := 0, ground := Ground.phase }, { on := 1, ground := Ground.phase }, { on := 2, ground := Ground.phase }, { on := 3, ground := Ground.phase }, { on := 4, ground := Ground.phase }, { on := 5, ground := Ground.phase }, { on := 6, ground := Ground.phase }, { on := 7, ground := Ground.phase }, { on := 8, ground := Ground.phase }, { on := 9, ground := Ground.phase }, { on := 10, ground := Ground.phase }, { on := 11, ground := Ground.phase }, { on := 12, ground := Ground.phase }, { on := 13, ground := Ground.phase }, { on := 14, ground := Ground.phase }, { on := 15, ground := Ground.phase }, { on := 16, ground := Ground.phase }, { on := 17, ground := Ground.phase }, { on := 18, ground := Ground.phase }], guard := none }) (by kernel_rfl) rfl (fun K hK => ?_)
                        go_simp
                        refine hK _ _ (fun h => by cases h) ?_
                        clear hK K
                        try simp only [Act.put, List.setIfInBounds_toArray, List.set_cons_zero, List.set_cons_succ]
                        refine wpAnyD_done (by kernel_rfl) ?_ _
                        go_wp2
                        all_goals go_ret
                        all_goals exact ⟨by rw [HE0.out]; rfl, _, _, L.take k ++ (n, a) :: L.drop k, (H5.out.setA b5.out (HFIN.out _ _ E5.out) V5.out).unbox, .inr (.inr ⟨HE0.out, HNO.out, k, by rw [HL.out]; exact HK.out.1, HK.out.2.1, HK.out.2.2, rfl⟩)⟩
          · have HPI := hide (HPL.out _ _ H4.out a.inh)
            rw [plcZ_none h1] at HPI
            have HE := hide (show defE L n a = 8 by
              unfold defE defErr
              rw [if_neg (by rw [HV.out]; decide), if_neg (by rw [HW.out]; decide), if_neg HI.out, if_neg (by rw [HVI.out]; decide), if_pos h2])
            clear h1 h2
            go_wp2_with fail
            refine Calls.mono HPI.out ?_
            rintro r w6 ⟨rfl, rfl⟩
            go_wp2
            go_ret
            exact ⟨by rw [HE.out]; rfl, _, _, L, H4.out.unbox, .inl ⟨by rw [HE.out]; decide, rfl⟩⟩
end Go.Proofs.Ytmjogpacajbngaa
