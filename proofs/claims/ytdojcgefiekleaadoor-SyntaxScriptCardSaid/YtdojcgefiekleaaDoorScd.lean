/- The scanner's move forward. No condition but those written. -/
import Derived.Test.YtdojcgefiekleaaDoorScc
import Derived.Deep.RegionHeld3
import Derived.BigQuiet
namespace Go.Proofs.YtdojcgefiekleaaDoor
open Go.RowKit

theorem results_tmp_cell {P : Program} {fn : Func} {q p : Tmp} {ty : TypeId} (h : fn.results = #[.tmp q, .cell p ty]) (tmps : Array Value) (w : World) (g : Nat) (t : TypeId) (cs : Array Value) (fr : Nat × Nat) (d : TypeDesc)
    (hp : tmps.getD p undef = .pointer (some ⟨g, 0, none⟩)) (hg : w.heap[g]? = some (.cells cs t fr))
    (hu : P.underlying ty = some d) (hd : (match d with | .struct _ | .array _ _ => true | _ => false) = true) (hi : (P.info? ty).map (·.size) = some cs.size) :
    (results fn tmps).run P w = .ok (.tuple #[tmps.getD q undef, .agg cs]) w := by
  have hp' : tmps[p]?.getD undef = .pointer (some ⟨g, 0, none⟩) := by simpa using hp
  simp [results, h, hp', asAddr, run_loadVar_row w g t ty cs fr d hg hu hd hi]
/-- What a move answers. -/
def ansV (r : Ans) : Value := .tuple #[.int .i64 (r.1 : Int), .agg #[.int .i64 r.2.1, .int .i64 r.2.2]]
/-- Within a move forward: the scanner's box, the fault's, the open brackets (the innermost first). -/
structure FSt (w0 w : World) (p : TL) (v sv : Value) (S : List Nat) : Prop where
  bel : Below w0.heap.size w0 w
  box : Blk w w0.heap.size 69 #[.pointer (some ⟨p.t, 0, none⟩), v]
  flt : Blk w (w0.heap.size + 1) 40 #[.int .i64 0, .int .i64 0]
  st : Sl w 3 1 sv S.length (ints S.reverse)
  own : ∀ g, sv.ownBlock = some g → w0.heap.size + 2 ≤ g
section
variable {w0 w w' : World} {p : TL} {T : Tb} {v sv : Value} {L S : List Nat} {i : Nat}
theorem FSt.size (h : FSt w0 w p v sv S) : w0.heap.size + 2 ≤ w.heap.size := h.flt.lt
theorem FSt.below (h : FSt w0 w p v sv S) (hb : Below w.heap.size w w') : FSt w0 w' p v sv S :=
  ⟨h.bel.trans (hb.mono h.bel.size), h.box.below hb h.box.lt, h.flt.below hb h.flt.lt, h.st.only (Only.of_below (F := fun _ => False) hb) fun _ _ f => f, h.own⟩
theorem FSt.drewN (h : FSt w0 w p v sv S) (n : Nat) : FSt w0 (w.drewN n) p v sv S := h.below (below_drewN (Below.refl _ _) n)
theorem FSt.start (w : World) : FSt w ((w.alloc (.cells #[.pointer (some ⟨p.t, 0, none⟩), v] 69)).alloc (.cells #[.int .i64 0, .int .i64 0] 40)) p v (.slice none 0 0) [] := by
  refine ⟨((Below.refl _ w).alloc (Nat.le_refl _) _).alloc (by simp) _, (Blk.new w _ _).alloc _, ?_, Sl.nil _ _ _, fun g h => by simp [Value.ownBlock] at h⟩
  have := Blk.new (w.alloc (.cells #[.pointer (some ⟨p.t, 0, none⟩), v] 69)) 40 #[.int .i64 0, .int .i64 0]
  rwa [World.size_alloc] at this
theorem FSt.c0 (h : FSt w0 w p v sv S) : w.cell? ⟨w0.heap.size, 0, none⟩ = some (.pointer (some ⟨p.t, 0, none⟩)) := (h.box.cell 0).trans rfl
theorem FSt.c1 (h : FSt w0 w p v sv S) : w.cell? ⟨w0.heap.size, 1, none⟩ = some v := (h.box.cell 1).trans rfl
theorem FSt.d0 (h : FSt w0 w p v sv S) : w.cell? ⟨w0.heap.size + 1, 0, none⟩ = some (.int .i64 0) := (h.flt.cell 0).trans rfl
theorem FSt.d1 (h : FSt w0 w p v sv S) : w.cell? ⟨w0.heap.size + 1, 1, none⟩ = some (.int .i64 0) := (h.flt.cell 1).trans rfl
theorem FSt.e0 (h : FSt w0 w p v sv S) : w.frozen? ⟨w0.heap.size + 1, 0, none⟩ = false := h.flt.frozen 0
theorem FSt.e1 (h : FSt w0 w p v sv S) : w.frozen? ⟨w0.heap.size + 1, 1, none⟩ = false := h.flt.frozen 1
theorem FSt.head {o : Nat} {rest : List Nat} (h : FSt w0 w p v sv (o :: rest)) : ∃ b off c, sv = .slice (some ⟨b, off, none⟩) (rest.length + 1) c ∧ rest.length + 1 ≤ c ∧ ∀ w', Below w.heap.size w w' → w'.cell? ⟨b, off + rest.length, none⟩ = some (.int .i64 (o : Int)) := by
  obtain ⟨g, off, c, rfl, h1, _, h3, _⟩ := h.st.at_ (by simp)
  refine ⟨g, off, c, rfl, h1, fun w' hb => ?_⟩
  have h2 := h3 rest.length (.int .i64 (o : Int)) (by simp [ints])
  exact (World.cell?_of_block (hb.block _ (World.block_lt_of_cell? _ _ h2))).trans h2
theorem FSt.hdc {b off n c o : Nat} {rest : List Nat} (h : FSt w0 w p v (.slice (some ⟨b, off, none⟩) n c) (o :: rest)) (w' : World) (hb : Below w.heap.size w w') : w'.cell? ⟨b, off + rest.length, none⟩ = some (.int .i64 (o : Int)) := by
  obtain ⟨b', off', c', e, _, hh⟩ := h.head
  injection e with e1 e2 e3
  injection e1 with e1
  injection e1 with e4 e5
  subst e4 e5
  exact hh w' hb
theorem FSt.pop {A : Option Addr} {n c o : Nat} {rest : List Nat} (h : FSt w0 w p v (.slice A n c) (o :: rest)) : FSt w0 w p v (.slice A rest.length c) rest := by
  obtain ⟨A', c', e, _⟩ := h.st.form
  injection e with e1 e2 e3
  subst e1 e2 e3
  refine ⟨h.bel, h.box, h.flt, ?_, fun g hg => h.own g (by cases A with
    | none => simp [Value.ownBlock] at hg
    | some a => exact hg)⟩
  have := h.st.cut (m := rest.length) (by simp)
  rw [show (ints (o :: rest).reverse).take (rest.length * 1) = ints rest.reverse by simp [ints]] at this
  exact this
theorem FSt.push {sv' : Value} {o : Nat} (h : FSt w0 w p v sv S) (hs : Sl w' 3 1 sv' (S.length + 1) (ints S.reverse ++ [.int .i64 (o : Int)])) (ho : Only (fun b => sv.ownBlock = some b) w w') (hv : sv'.ownBlock = sv.ownBlock ∨ ∃ g, sv'.ownBlock = some g ∧ w.heap.size ≤ g) : FSt w0 w' p v sv' (o :: S) := by
  have hsz := h.size
  refine ⟨h.bel.trans (ho.below h.bel.size fun i hi => by have := h.own i hi; omega), h.box.only ho fun e => by have := h.own _ e; omega, h.flt.only ho fun e => by have := h.own _ e; omega, ?_, fun g hg => ?_⟩
  · rw [List.reverse_cons, ints_snoc]
    exact hs
  · rcases hv with e | ⟨k, e, hk⟩
    · exact h.own g (e ▸ hg)
    · rw [e] at hg
      injection hg with hg
      omega
/-- The answer, out of the fault's block. -/
theorem FSt.fin (h : FSt w0 w p v sv S) (x y : Value) : Blk ((w.setCell ⟨w0.heap.size + 1, 0, none⟩ x).setCell ⟨w0.heap.size + 1, 1, none⟩ y) (w0.heap.size + 1) 40 #[x, y] ∧ Below w0.heap.size w0 ((w.setCell ⟨w0.heap.size + 1, 0, none⟩ x).setCell ⟨w0.heap.size + 1, 1, none⟩ y) :=
  ⟨(h.flt.set_ 0 x).set_ 1 y, (h.bel.setCell (by simp) _).setCell (by simp) _⟩
set_option maxRecDepth 100000 in
set_option maxHeartbeats 4000000 in
theorem forward_any (h : Scan w p T v L) (hi : i ≤ L.length) : Calls Tryd.prog 47 #[scanV p v, .int .i64 (i : Int)] w fun e w' => e = .returned (ansV (fwd1 T L i)) ∧ Below w.heap.size w w' := by
  have hTok := hide h.tab.ok
  obtain ⟨A, c, hv⟩ := h.form
  have HL := hide h.len
  have hn : (L.length : Int) ≤ 1000000000000 := by have := h.len; omega
  have hi2 : (i : Int) ≤ (L.length : Int) := by omega
  have HS := hide (fun W (hW : Below w.heap.size w W) (j : Nat) (hj : j < L.length) => sclass_any (h.below hW) hj)
  have HG := hide (fun W (hW : Below w.heap.size w W) (j : Nat) (hj : j ≤ L.length) => gap_any (h.below hW) hj)
  have HQ := hide (fun W (hW : Below w.heap.size w W) (j : Nat) (hj : j < L.length) => quoted_any (h.below hW) hj)
  have HN := hide (fun W (hW : Below w.heap.size w W) (j : Nat) (hj : j ≤ L.length) => name_any (h.below hW) hj)
  have HM := hide (fun W (hW : Below w.heap.size w W) (c : Int) => mate_any (h.tab.below hW) c)
  have HC := hide (fun (j : Nat) (hj : j < L.length) => h.at_ hj)
  have HI := hide hi
  obtain ⟨R, hR⟩ : ∃ R, R = fwd1 T L i := ⟨_, rfl⟩
  have HR := hide hR
  rw [← hR]
  clear hR
  subst hv
  unfold scanV at *
  clear h hi
  have HB := hide (FSt.start (p := p) (v := .slice A L.length c) w)
  obtain ⟨i0, hi0, hz0, hz1, hz2⟩ := info_parts info_int
  go_enter Tryd.func47, Tryd.ntmps47
  go_wp2
  go_loopw [1, 6] (fun t sv wr => ∃ (n j : Nat) (S : List Nat), t = .int .i64 (j : Int) ∧ j ≤ L.length ∧ L.length < n + j ∧ S.length ≤ 200 ∧ (∀ o ∈ S, o < L.length) ∧ fwd T 13 5 12 L n S j = R ∧ FSt w wr p (.slice A L.length c) sv S) (fun t _ _ => L.length + 1 - (intOf t).toNat)
  case atStart => exact ⟨L.length + 1, i, [], rfl, HI.out, by omega, by simp, by simp, HR.out.symm, HB.out⟩
  case round =>
    obtain ⟨n, j, S, rfl, hj, hnj, hS, hSL, he, hb⟩ := hrel
    obtain ⟨n, rfl⟩ : ∃ m, n = m + 1 := ⟨n - 1, by omega⟩
    have HJ := hide hb
    have HE := hide he
    have hg := gapA_le (T := T) hj
    have hs := gapA_spec (T := T) hj
    obtain ⟨g, hgj⟩ : ∃ g, gapA T L j = g := ⟨_, rfl⟩
    rw [hgj] at hg hs
    have HGJ := hide hgj
    have HSP := hide hs
    have HGL := hide hg
    have HSL := hide hSL
    have k0 := hb.c0
    have k1 := hb.c1
    have HGG := hide (show Calls Tryd.prog 72 _ wr _ from hgj ▸ HG.out wr hb.bel j hj)
    clear he hs hgj hSL
    have hgL : (g : Int) ≤ 1000000000000 := by omega
    cases S with
    | nil =>
      obtain ⟨As, cs, rfl, _⟩ := hb.st.form
      clear hb
      by_cases e : g = L.length
      · have y1 : ((g : Int) == (L.length : Int)) = true := by simp [e]
        have HF := hide ((fwd_end HGJ.out e).symm.trans HE.out)
        clear e
        go_wp2_with (go_at_call 72; refine (Calls.mono HGG.out) ?_; rintro e w2 ⟨rfl, hb2⟩; have HK := hide (HJ.out.below hb2); have k2 := HK.out.c0; have k3 := HK.out.c1; have d0 := HK.out.d0; have d1 := HK.out.d1; have e0 := HK.out.e0; have e1 := HK.out.e1; clear hb2)
        refine bodyPost_ret (results_tmp_cell rfl _ _ (w.heap.size + 1) 40 _ (0, 0) _ rfl (HK.out.fin _ _).1 Tryd.underlying40 rfl (by kernel_rfl)) rfl ?_
        exact ⟨by rw [← HF.out]; rfl, (HK.out.fin _ _).2⟩
      · have y1 : ((g : Int) == (L.length : Int)) = false := by simp; omega
        have hl : g < L.length := by omega
        have HSj := HS.out
        by_cases hk : T.at_ L g = 5
        · have HF := hide ((fwd_close0 HGJ.out e hk).symm.trans HE.out)
          clear e
          go_wp2_with (first | (go_at_call 72; refine (Calls.mono HGG.out) ?_; rintro e w2 ⟨rfl, hb2⟩; have HK := hide (HJ.out.below hb2); have k2 := HK.out.c0; have k3 := HK.out.c1; have d0 := HK.out.d0; have d1 := HK.out.d1; have e0 := HK.out.e0; have e1 := HK.out.e1; clear hb2) | (go_at_call 73; refine (Calls.mono (HSj _ HK.out.bel g hl)) ?_; rw [hk]; rintro e w3 ⟨rfl, hb3⟩; have HM3 := hide (HK.out.below hb3); have m2 := HM3.out.c0; have m3 := HM3.out.c1; have n0 := HM3.out.d0; have n1 := HM3.out.d1; have o0 := HM3.out.e0; have o1 := HM3.out.e1; clear hb3))
          go_quiet (fail)
          go_wp2
          refine bodyPost_ret (results_tmp_cell rfl _ _ (w.heap.size + 1) 40 _ (0, 0) _ rfl ((HM3.out.drewN _).fin _ _).1 Tryd.underlying40 rfl (by kernel_rfl)) rfl ?_
          exact ⟨by rw [← HF.out]; rfl, ((HM3.out.drewN _).fin _ _).2⟩
        · have hk5 := hk
          clear hk
          · by_cases hk : T.at_ L g = 4
            · have HF := hide ((fwd_open HGJ.out e hk (by simp)).symm.trans HE.out)
              clear e
              go_wp2_with (first | (go_at_call 72; refine (Calls.mono HGG.out) ?_; rintro e w2 ⟨rfl, hb2⟩; have HK := hide (HJ.out.below hb2); have k2 := HK.out.c0; have k3 := HK.out.c1; have d0 := HK.out.d0; have d1 := HK.out.d1; have e0 := HK.out.e0; have e1 := HK.out.e1; clear hb2) | (go_at_call 73; refine (Calls.mono (HSj _ HK.out.bel g hl)) ?_; rw [hk]; rintro e w3 ⟨rfl, hb3⟩; have HM3 := hide (HK.out.below hb3); have m2 := HM3.out.c0; have m3 := HM3.out.c1; have n0 := HM3.out.d0; have n1 := HM3.out.d1; have o0 := HM3.out.e0; have o1 := HM3.out.e1; clear hb3) | (at_builtin; refine wpList_append_sl rfl (.tmp 72) (.tmp 74) 24 rfl 3 i0 (.int .i64 0) 1 8 Tryd.underlying24 hi0 hz0 hz1 hz2 rfl _ ([]).length (ints ([]).reverse) rfl (HM3.out.st.alloc _) _ rfl 1 [_] (rd_one _ _ _) ?one ?b1 ?b2 ?_))
              case one => intro u hu; simp at hu; subst hu; rfl
              case b1 => simp only [List.length_nil]; unfold maxLen; omega
              case b2 => simp only [List.length_nil]; omega
              intro v' w' hsl' honly hv'
              have HL2 := hide hsl'
              have HY2 := hide honly
              have HV2 := hide hv'
              clear hsl' honly hv'
              go_wp2
              refine ⟨⟨n, g + 1, g :: ([]), by simp, hl, by omega, by simp, ?_, HF.out, ?_⟩, by simp [intOf]; omega⟩
              · intro x hx
                rcases List.mem_cons.1 hx with rfl | hx
                · exact hl
                · exact HSL.out x hx
              · refine HM3.out.push HL2.out (((Only.refl _ _).alloc _).trans HY2.out) (HV2.out.imp id fun e => ⟨_, e, ?_⟩)
                first | omega | (rw [World.size_alloc]; omega)
            · have hk4 : (T.at_ L g == 4) = false := by simpa using hk
              by_cases hk6 : T.at_ L g = 6
              · have hk := hk6
                cases hq : quoA T L g with
                | none =>
                  have HQn := hide (show ∀ W, Below w.heap.size w W → Calls Tryd.prog 74 #[.agg #[.pointer (some ⟨p.t, 0, none⟩), .slice A L.length c], .int .i64 (g : Int)] W fun e w' => e = .returned (.tuple #[.int .i64 0, .bool false]) ∧ Below W.heap.size W w' from fun W hW => by have := HQ.out W hW g hl; rw [hq] at this; exact this)
                  have HF := hide ((fwd_str_bad HGJ.out e hk hq).symm.trans HE.out)
                  clear e hk4 hk6 hq
                  go_wp2_with (first | (go_at_call 72; refine (Calls.mono HGG.out) ?_; rintro e w2 ⟨rfl, hb2⟩; have HK := hide (HJ.out.below hb2); have k2 := HK.out.c0; have k3 := HK.out.c1; have d0 := HK.out.d0; have d1 := HK.out.d1; have e0 := HK.out.e0; have e1 := HK.out.e1; clear hb2) | (go_at_call 73; refine (Calls.mono (HSj _ HK.out.bel g hl)) ?_; rw [hk]; rintro e w3 ⟨rfl, hb3⟩; have HM3 := hide (HK.out.below hb3); have m2 := HM3.out.c0; have m3 := HM3.out.c1; have n0 := HM3.out.d0; have n1 := HM3.out.d1; have o0 := HM3.out.e0; have o1 := HM3.out.e1; clear hb3) | (go_at_call 74; refine (Calls.mono (HQn.out _ HM3.out.bel)) ?_; rintro e w4 ⟨rfl, hb4⟩; have HM4 := hide (HM3.out.below hb4); have m4 := HM4.out.c1; have r0 := HM4.out.d0; have r1 := HM4.out.d1; have r2 := HM4.out.e0; have r3 := HM4.out.e1; clear hb4))
                  refine bodyPost_ret (results_tmp_cell rfl _ _ (w.heap.size + 1) 40 _ (0, 0) _ rfl (HM4.out.fin _ _).1 Tryd.underlying40 rfl (by kernel_rfl)) rfl ?_
                  exact ⟨by rw [← HF.out]; rfl, (HM4.out.fin _ _).2⟩
                | some q =>
                  have hq2 := hq
                  rw [quoA_eq] at hq2
                  have hq3 := quoF_le hq2
                  have HQn := hide (show ∀ W, Below w.heap.size w W → Calls Tryd.prog 74 #[.agg #[.pointer (some ⟨p.t, 0, none⟩), .slice A L.length c], .int .i64 (g : Int)] W fun e w' => e = .returned (.tuple #[.int .i64 (q : Int), .bool true]) ∧ Below W.heap.size W w' from fun W hW => by have := HQ.out W hW g hl; rw [hq] at this; exact this)
                  have HF := hide ((fwd_str_last HGJ.out e hk hq).symm.trans HE.out)
                  clear e hk4 hk6 hq hq2
                  go_wp2_with (first | (go_at_call 72; refine (Calls.mono HGG.out) ?_; rintro e w2 ⟨rfl, hb2⟩; have HK := hide (HJ.out.below hb2); have k2 := HK.out.c0; have k3 := HK.out.c1; have d0 := HK.out.d0; have d1 := HK.out.d1; have e0 := HK.out.e0; have e1 := HK.out.e1; clear hb2) | (go_at_call 73; refine (Calls.mono (HSj _ HK.out.bel g hl)) ?_; rw [hk]; rintro e w3 ⟨rfl, hb3⟩; have HM3 := hide (HK.out.below hb3); have m2 := HM3.out.c0; have m3 := HM3.out.c1; have n0 := HM3.out.d0; have n1 := HM3.out.d1; have o0 := HM3.out.e0; have o1 := HM3.out.e1; clear hb3) | (go_at_call 74; refine (Calls.mono (HQn.out _ HM3.out.bel)) ?_; rintro e w4 ⟨rfl, hb4⟩; have HM4 := hide (HM3.out.below hb4); have m4 := HM4.out.c1; have r0 := HM4.out.d0; have r1 := HM4.out.d1; have r2 := HM4.out.e0; have r3 := HM4.out.e1; clear hb4))
                  refine bodyPost_ret (results_tmp_cell rfl _ _ (w.heap.size + 1) 40 _ (0, 0) _ rfl (HM4.out.fin _ _).1 Tryd.underlying40 rfl (by kernel_rfl)) rfl ?_
                  exact ⟨by rw [← HF.out]; rfl, (HM4.out.fin _ _).2⟩
              · have hk6b : (T.at_ L g == 6) = false := by simpa using hk6
                have hk5b : (T.at_ L g == 5) = false := by simpa using hk5
                have hnm := name_more hTok.out hl (HSP.out hl).1 (HSP.out hl).2 hk hk5 hk6
                have hnl := nameA_le (T := T) (L := L) (i := g) hg.2
                have HF := hide ((fwd_name_last HGJ.out e hk hk5 hk6).symm.trans HE.out)
                have HNM := hide hnm
                have HNL := hide hnl
                clear e hk hk5 hk6 hnm hnl
                go_wp2_with (first | (go_at_call 72; refine (Calls.mono HGG.out) ?_; rintro e w2 ⟨rfl, hb2⟩; have HK := hide (HJ.out.below hb2); have k2 := HK.out.c0; have k3 := HK.out.c1; have d0 := HK.out.d0; have d1 := HK.out.d1; have e0 := HK.out.e0; have e1 := HK.out.e1; clear hb2) | (go_at_call 73; refine (Calls.mono (HSj _ HK.out.bel g hl)) ?_; rintro e w3 ⟨rfl, hb3⟩; have HM3 := hide (HK.out.below hb3); have m2 := HM3.out.c0; have m3 := HM3.out.c1; have n0 := HM3.out.d0; have n1 := HM3.out.d1; have o0 := HM3.out.e0; have o1 := HM3.out.e1; clear hb3) | (go_at_call 75; refine (Calls.mono (HN.out _ HM3.out.bel g hg.2)) ?_; rintro e w4 ⟨rfl, hb4⟩; have HM4 := hide (HM3.out.below hb4); have m4 := HM4.out.c1; have r0 := HM4.out.d0; have r1 := HM4.out.d1; have r2 := HM4.out.e0; have r3 := HM4.out.e1; clear hb4))
                refine bodyPost_ret (results_tmp_cell rfl _ _ (w.heap.size + 1) 40 _ (0, 0) _ rfl (HM4.out.fin _ _).1 Tryd.underlying40 rfl (by kernel_rfl)) rfl ?_
                exact ⟨by rw [← HF.out]; rfl, (HM4.out.fin _ _).2⟩
    | cons o rest =>
      obtain ⟨b, off, cs, rfl, hcs, hhd⟩ := hb.head
      have HHD := hide hhd
      have hrl : (rest.length : Int) ≤ 199 := by simp at hS; omega
      clear hb hhd
      by_cases e : g = L.length
      · have y1 : ((g : Int) == (L.length : Int)) = true := by simp [e]
        have HF := hide ((fwd_end HGJ.out e).symm.trans HE.out)
        clear e
        go_wp2_with (go_at_call 72; refine (Calls.mono HGG.out) ?_; rintro e w2 ⟨rfl, hb2⟩; have HK := hide (HJ.out.below hb2); have kh := HHD.out _ hb2; have k2 := HK.out.c0; have k3 := HK.out.c1; have d0 := HK.out.d0; have d1 := HK.out.d1; have e0 := HK.out.e0; have e1 := HK.out.e1; clear hb2)
        refine bodyPost_ret (results_tmp_cell rfl _ _ (w.heap.size + 1) 40 _ (0, 0) _ rfl (HK.out.fin _ _).1 Tryd.underlying40 rfl (by kernel_rfl)) rfl ?_
        exact ⟨by rw [← HF.out]; rfl, (HK.out.fin _ _).2⟩
      · have y1 : ((g : Int) == (L.length : Int)) = false := by simp; omega
        have hl : g < L.length := by omega
        have HSj := HS.out
        by_cases hk : T.at_ L g = 5
        · have hol : o < L.length := HSL.out o (List.mem_cons_self ..)
          obtain ⟨lb, lo, lc, hv, hcell⟩ := HC.out g hl
          injection hv with h1 _ h3
          subst h1 h3
          obtain ⟨cg, hcg⟩ : ∃ cg : Int, cg = ((L.getD g 0 : Nat) : Int) := ⟨_, rfl⟩
          obtain ⟨co, hco⟩ : ∃ co : Int, co = ((L.getD o 0 : Nat) : Int) := ⟨_, rfl⟩
          have HLC := hide (show ∀ W, Below w.heap.size w W → W.cell? ⟨lb, lo + g, none⟩ = some (.int .i64 cg) ∧ W.cell? ⟨lb, lo + o, none⟩ = some (.int .i64 co) from fun W hW => ⟨hcg ▸ hcell W hW g hl, hco ▸ hcell W hW o hol⟩)
          clear hcell HC
          have z1 : (o : Int) < (L.length : Int) := by omega
          have z2 : (g : Int) < (L.length : Int) := by omega
          have z3 : (rest.length : Int) < (rest.length : Int) + 1 := by omega
          have z4 : (0 : Int) ≤ (rest.length : Int) := by omega
          cases hm : (cg == T.mate co)
          · have HF := hide ((fwd_close_bad (opens := rest) (o := o) HGJ.out e hk (by rw [← hcg, ← hco]; simpa using hm)).symm.trans HE.out)
            clear e hcg hco
            go_wp2_with (first | (go_at_call 72; refine (Calls.mono HGG.out) ?_; rintro e w2 ⟨rfl, hb2⟩; have HK := hide (HJ.out.below hb2); have k2 := HK.out.c0; have k3 := HK.out.c1; have d0 := HK.out.d0; have d1 := HK.out.d1; have e0 := HK.out.e0; have e1 := HK.out.e1; clear hb2) | (go_at_call 73; refine (Calls.mono (HSj _ HK.out.bel g hl)) ?_; rw [hk]; rintro e w3 ⟨rfl, hb3⟩; have HM3 := hide (HK.out.below hb3); have m2 := HM3.out.c0; have m3 := HM3.out.c1; have n0 := HM3.out.d0; have n1 := HM3.out.d1; have o0 := HM3.out.e0; have o1 := HM3.out.e1; clear hb3))
            have HKEEP := hide (fun W (hW : Below w3.heap.size w3 W) => And.intro ((HM3.out.below hW).c0) (And.intro ((HM3.out.below hW).c1) (And.intro (HM3.out.hdc W hW) (And.intro (HLC.out W (HM3.out.bel.trans (hW.mono HM3.out.bel.size))).1 (HLC.out W (HM3.out.bel.trans (hW.mono HM3.out.bel.size))).2))))
            have HB3 := hide (Below.refl w3.heap.size w3)
            go_region_held3 (fun w' => w'.cell? ⟨w.heap.size, 0, none⟩ = some (.pointer (some ⟨p.t, 0, none⟩)) ∧ w'.cell? ⟨w.heap.size, 1, none⟩ = some (.slice (some ⟨lb, lo, none⟩) L.length c) ∧ w'.cell? ⟨b, off + rest.length, none⟩ = some (.int .i64 (o : Int)) ∧ w'.cell? ⟨lb, lo + g, none⟩ = some (.int .i64 cg) ∧ w'.cell? ⟨lb, lo + o, none⟩ = some (.int .i64 co))
              (first | exact HKEEP.out _ HB3.out.drew | exact HKEEP.out _ (HB3.out.drew.trans hb5))
              (first | (go_at_call 29; refine (Calls.mono (HM.out _ (HM3.out.bel.trans (HB3.out.drew.mono HM3.out.bel.size)) co)) ?_; rintro e w5 ⟨rfl, hb5⟩))
            have HM5 := hide (HM3.out.below (HB3.out.drew.trans hb5))
            have v0 := HM5.out.d0
            have v1 := HM5.out.d1
            have v2 := HM5.out.e0
            have v3 := HM5.out.e1
            clear hb5
            have hm2 : (cg != T.mate co) = true := by simpa using hm
            have hm4 : ¬ cg = T.mate co := by simpa using hm
            have hm5 : ¬ (0 ≤ (rest.length : Int) ∧ (cg != T.mate co) = false) := by simpa using hm4
            go_wp2
            refine bodyPost_ret (results_tmp_cell rfl _ _ (w.heap.size + 1) 40 _ (0, 0) _ rfl (HM5.out.fin _ _).1 Tryd.underlying40 rfl (by kernel_rfl)) rfl ?_
            exact ⟨by rw [← HF.out]; rfl, (HM5.out.fin _ _).2⟩
          · have HMM := hide (show ((L.getD g 0 : Nat) : Int) = T.mate ((L.getD o 0 : Nat) : Int) from by rw [← hcg, ← hco]; simpa using hm)
            clear hcg hco
            by_cases hr : rest = []
            · have HF := hide ((show fwd T 13 5 12 L (n + 1) (o :: rest) j = (g + 1, 0, 0) from by rw [hr]; exact fwd_close_last HGJ.out e hk HMM.out).symm.trans HE.out)
              have y3 : ((rest.length : Int) == 0) = true := by rw [hr]; rfl
              clear e hr
              go_wp2_with (first | (go_at_call 72; refine (Calls.mono HGG.out) ?_; rintro e w2 ⟨rfl, hb2⟩; have HK := hide (HJ.out.below hb2); have k2 := HK.out.c0; have k3 := HK.out.c1; have d0 := HK.out.d0; have d1 := HK.out.d1; have e0 := HK.out.e0; have e1 := HK.out.e1; clear hb2) | (go_at_call 73; refine (Calls.mono (HSj _ HK.out.bel g hl)) ?_; rw [hk]; rintro e w3 ⟨rfl, hb3⟩; have HM3 := hide (HK.out.below hb3); have m2 := HM3.out.c0; have m3 := HM3.out.c1; have n0 := HM3.out.d0; have n1 := HM3.out.d1; have o0 := HM3.out.e0; have o1 := HM3.out.e1; clear hb3))
              have HKEEP := hide (fun W (hW : Below w3.heap.size w3 W) => And.intro ((HM3.out.below hW).c0) (And.intro ((HM3.out.below hW).c1) (And.intro (HM3.out.hdc W hW) (And.intro (HLC.out W (HM3.out.bel.trans (hW.mono HM3.out.bel.size))).1 (HLC.out W (HM3.out.bel.trans (hW.mono HM3.out.bel.size))).2))))
              have HB3 := hide (Below.refl w3.heap.size w3)
              go_region_held3 (fun w' => w'.cell? ⟨w.heap.size, 0, none⟩ = some (.pointer (some ⟨p.t, 0, none⟩)) ∧ w'.cell? ⟨w.heap.size, 1, none⟩ = some (.slice (some ⟨lb, lo, none⟩) L.length c) ∧ w'.cell? ⟨b, off + rest.length, none⟩ = some (.int .i64 (o : Int)) ∧ w'.cell? ⟨lb, lo + g, none⟩ = some (.int .i64 cg) ∧ w'.cell? ⟨lb, lo + o, none⟩ = some (.int .i64 co))
                (first | exact HKEEP.out _ HB3.out.drew | exact HKEEP.out _ (HB3.out.drew.trans hb5))
                (first | (go_at_call 29; refine (Calls.mono (HM.out _ (HM3.out.bel.trans (HB3.out.drew.mono HM3.out.bel.size)) co)) ?_; rintro e w5 ⟨rfl, hb5⟩))
              have HM5 := hide (HM3.out.below (HB3.out.drew.trans hb5))
              have v0 := HM5.out.d0
              have v1 := HM5.out.d1
              have v2 := HM5.out.e0
              have v3 := HM5.out.e1
              clear hb5
              have hm2 : (cg != T.mate co) = false := by simpa using hm
              have hm5 : 0 ≤ (rest.length : Int) ∧ (cg != T.mate co) = false := ⟨by omega, hm2⟩
              have hm6 : ¬ ((rest.length : Int) < 0 ∨ (cg != T.mate co) = true) := by rw [hm2]; simp
              go_wp2
              refine bodyPost_ret (results_tmp_cell rfl _ _ (w.heap.size + 1) 40 _ (0, 0) _ rfl (HM5.out.fin _ _).1 Tryd.underlying40 rfl (by kernel_rfl)) rfl ?_
              exact ⟨by rw [← HF.out]; rfl, (HM5.out.fin _ _).2⟩
            · have HF := hide ((fwd_close HGJ.out e hk HMM.out hr).symm.trans HE.out)
              have hr2 : rest.length ≠ 0 := fun h => hr (List.length_eq_zero_iff.1 h)
              have y3 : ((rest.length : Int) == 0) = false := by simp; omega
              clear e hr hr2
              go_wp2_with (first | (go_at_call 72; refine (Calls.mono HGG.out) ?_; rintro e w2 ⟨rfl, hb2⟩; have HK := hide (HJ.out.below hb2); have k2 := HK.out.c0; have k3 := HK.out.c1; have d0 := HK.out.d0; have d1 := HK.out.d1; have e0 := HK.out.e0; have e1 := HK.out.e1; clear hb2) | (go_at_call 73; refine (Calls.mono (HSj _ HK.out.bel g hl)) ?_; rw [hk]; rintro e w3 ⟨rfl, hb3⟩; have HM3 := hide (HK.out.below hb3); have m2 := HM3.out.c0; have m3 := HM3.out.c1; have n0 := HM3.out.d0; have n1 := HM3.out.d1; have o0 := HM3.out.e0; have o1 := HM3.out.e1; clear hb3))
              have HKEEP := hide (fun W (hW : Below w3.heap.size w3 W) => And.intro ((HM3.out.below hW).c0) (And.intro ((HM3.out.below hW).c1) (And.intro (HM3.out.hdc W hW) (And.intro (HLC.out W (HM3.out.bel.trans (hW.mono HM3.out.bel.size))).1 (HLC.out W (HM3.out.bel.trans (hW.mono HM3.out.bel.size))).2))))
              have HB3 := hide (Below.refl w3.heap.size w3)
              go_region_held3 (fun w' => w'.cell? ⟨w.heap.size, 0, none⟩ = some (.pointer (some ⟨p.t, 0, none⟩)) ∧ w'.cell? ⟨w.heap.size, 1, none⟩ = some (.slice (some ⟨lb, lo, none⟩) L.length c) ∧ w'.cell? ⟨b, off + rest.length, none⟩ = some (.int .i64 (o : Int)) ∧ w'.cell? ⟨lb, lo + g, none⟩ = some (.int .i64 cg) ∧ w'.cell? ⟨lb, lo + o, none⟩ = some (.int .i64 co))
                (first | exact HKEEP.out _ HB3.out.drew | exact HKEEP.out _ (HB3.out.drew.trans hb5))
                (first | (go_at_call 29; refine (Calls.mono (HM.out _ (HM3.out.bel.trans (HB3.out.drew.mono HM3.out.bel.size)) co)) ?_; rintro e w5 ⟨rfl, hb5⟩))
              have HM5 := hide (HM3.out.below (HB3.out.drew.trans hb5))
              have v0 := HM5.out.d0
              have v1 := HM5.out.d1
              have v2 := HM5.out.e0
              have v3 := HM5.out.e1
              clear hb5
              have hm2 : (cg != T.mate co) = false := by simpa using hm
              have hm5 : 0 ≤ (rest.length : Int) ∧ (cg != T.mate co) = false := ⟨by omega, hm2⟩
              have hm6 : ¬ ((rest.length : Int) < 0 ∨ (cg != T.mate co) = true) := by rw [hm2]; simp
              go_wp2
              refine ⟨⟨n, g + 1, rest, by simp, hl, by omega, by simp at hS; omega, ?_, HF.out, HM5.out.pop⟩, by simp [intOf]; omega⟩
              exact fun x hx => HSL.out x (List.mem_cons_of_mem _ hx)
        · have hk5 := hk
          clear hk
          · by_cases hk : T.at_ L g = 4
            · by_cases h2 : 200 ≤ rest.length + 1
              · have y2 : decide ((200 : Int) ≤ (rest.length : Int) + 1) = true := by simp; omega
                have HF := hide ((fwd_deep HGJ.out e hk (by simpa using h2)).symm.trans HE.out)
                clear e
                go_wp2_with (first | (go_at_call 72; refine (Calls.mono HGG.out) ?_; rintro e w2 ⟨rfl, hb2⟩; have HK := hide (HJ.out.below hb2); have k2 := HK.out.c0; have k3 := HK.out.c1; have d0 := HK.out.d0; have d1 := HK.out.d1; have e0 := HK.out.e0; have e1 := HK.out.e1; clear hb2) | (go_at_call 73; refine (Calls.mono (HSj _ HK.out.bel g hl)) ?_; rw [hk]; rintro e w3 ⟨rfl, hb3⟩; have HM3 := hide (HK.out.below hb3); have m2 := HM3.out.c0; have m3 := HM3.out.c1; have n0 := HM3.out.d0; have n1 := HM3.out.d1; have o0 := HM3.out.e0; have o1 := HM3.out.e1; clear hb3))
                refine bodyPost_ret (results_tmp_cell rfl _ _ (w.heap.size + 1) 40 _ (0, 0) _ rfl (HM3.out.fin _ _).1 Tryd.underlying40 rfl (by kernel_rfl)) rfl ?_
                exact ⟨by rw [← HF.out]; rfl, (HM3.out.fin _ _).2⟩
              · have y2 : decide ((200 : Int) ≤ (rest.length : Int) + 1) = false := by simp; omega
                have HF := hide ((fwd_open HGJ.out e hk (by simp; omega)).symm.trans HE.out)
                clear e
                go_wp2_with (first | (go_at_call 72; refine (Calls.mono HGG.out) ?_; rintro e w2 ⟨rfl, hb2⟩; have HK := hide (HJ.out.below hb2); have k2 := HK.out.c0; have k3 := HK.out.c1; have d0 := HK.out.d0; have d1 := HK.out.d1; have e0 := HK.out.e0; have e1 := HK.out.e1; clear hb2) | (go_at_call 73; refine (Calls.mono (HSj _ HK.out.bel g hl)) ?_; rw [hk]; rintro e w3 ⟨rfl, hb3⟩; have HM3 := hide (HK.out.below hb3); have m2 := HM3.out.c0; have m3 := HM3.out.c1; have n0 := HM3.out.d0; have n1 := HM3.out.d1; have o0 := HM3.out.e0; have o1 := HM3.out.e1; clear hb3) | (at_builtin; refine wpList_append_sl rfl (.tmp 72) (.tmp 74) 24 rfl 3 i0 (.int .i64 0) 1 8 Tryd.underlying24 hi0 hz0 hz1 hz2 rfl _ (o :: rest).length (ints (o :: rest).reverse) rfl (HM3.out.st.alloc _) _ rfl 1 [_] (rd_one _ _ _) ?one ?b1 ?b2 ?_))
                case one => intro u hu; simp at hu; subst hu; rfl
                case b1 => simp only [List.length_cons]; unfold maxLen; omega
                case b2 => simp only [List.length_cons]; omega
                intro v' w' hsl' honly hv'
                have HL2 := hide hsl'
                have HY2 := hide honly
                have HV2 := hide hv'
                clear hsl' honly hv'
                go_wp2
                refine ⟨⟨n, g + 1, g :: (o :: rest), by simp, hl, by omega, by simp at *; omega, ?_, HF.out, ?_⟩, by simp [intOf]; omega⟩
                · intro x hx
                  rcases List.mem_cons.1 hx with rfl | hx
                  · exact hl
                  · exact HSL.out x hx
                · refine HM3.out.push (show Sl w' 3 1 v' ((o :: rest).length + 1) (ints (o :: rest).reverse ++ [.int .i64 (g : Int)]) from by rw [List.reverse_cons]; exact HL2.out) (((Only.refl _ _).alloc _).trans HY2.out) (HV2.out.imp id fun e => ⟨_, e, ?_⟩)
                  first | omega | (rw [World.size_alloc]; omega)
            · have hk4 : (T.at_ L g == 4) = false := by simpa using hk
              by_cases hk6 : T.at_ L g = 6
              · have hk := hk6
                cases hq : quoA T L g with
                | none =>
                  have HQn := hide (show ∀ W, Below w.heap.size w W → Calls Tryd.prog 74 #[.agg #[.pointer (some ⟨p.t, 0, none⟩), .slice A L.length c], .int .i64 (g : Int)] W fun e w' => e = .returned (.tuple #[.int .i64 0, .bool false]) ∧ Below W.heap.size W w' from fun W hW => by have := HQ.out W hW g hl; rw [hq] at this; exact this)
                  have HF := hide ((fwd_str_bad HGJ.out e hk hq).symm.trans HE.out)
                  clear e hk4 hk6 hq
                  go_wp2_with (first | (go_at_call 72; refine (Calls.mono HGG.out) ?_; rintro e w2 ⟨rfl, hb2⟩; have HK := hide (HJ.out.below hb2); have k2 := HK.out.c0; have k3 := HK.out.c1; have d0 := HK.out.d0; have d1 := HK.out.d1; have e0 := HK.out.e0; have e1 := HK.out.e1; clear hb2) | (go_at_call 73; refine (Calls.mono (HSj _ HK.out.bel g hl)) ?_; rw [hk]; rintro e w3 ⟨rfl, hb3⟩; have HM3 := hide (HK.out.below hb3); have m2 := HM3.out.c0; have m3 := HM3.out.c1; have n0 := HM3.out.d0; have n1 := HM3.out.d1; have o0 := HM3.out.e0; have o1 := HM3.out.e1; clear hb3) | (go_at_call 74; refine (Calls.mono (HQn.out _ HM3.out.bel)) ?_; rintro e w4 ⟨rfl, hb4⟩; have HM4 := hide (HM3.out.below hb4); have m4 := HM4.out.c1; have r0 := HM4.out.d0; have r1 := HM4.out.d1; have r2 := HM4.out.e0; have r3 := HM4.out.e1; clear hb4))
                  refine bodyPost_ret (results_tmp_cell rfl _ _ (w.heap.size + 1) 40 _ (0, 0) _ rfl (HM4.out.fin _ _).1 Tryd.underlying40 rfl (by kernel_rfl)) rfl ?_
                  exact ⟨by rw [← HF.out]; rfl, (HM4.out.fin _ _).2⟩
                | some q =>
                  have hq2 := hq
                  rw [quoA_eq] at hq2
                  have hq3 := quoF_le hq2
                  have HQn := hide (show ∀ W, Below w.heap.size w W → Calls Tryd.prog 74 #[.agg #[.pointer (some ⟨p.t, 0, none⟩), .slice A L.length c], .int .i64 (g : Int)] W fun e w' => e = .returned (.tuple #[.int .i64 (q : Int), .bool true]) ∧ Below W.heap.size W w' from fun W hW => by have := HQ.out W hW g hl; rw [hq] at this; exact this)
                  have HF := hide ((fwd_str HGJ.out e hk hq (by simp)).symm.trans HE.out)
                  clear e hk4 hk6 hq hq2
                  have y3 : (((rest.length : Int) + 1) == 0) = false := by simp; omega
                  go_wp2_with (first | (go_at_call 72; refine (Calls.mono HGG.out) ?_; rintro e w2 ⟨rfl, hb2⟩; have HK := hide (HJ.out.below hb2); have k2 := HK.out.c0; have k3 := HK.out.c1; have d0 := HK.out.d0; have d1 := HK.out.d1; have e0 := HK.out.e0; have e1 := HK.out.e1; clear hb2) | (go_at_call 73; refine (Calls.mono (HSj _ HK.out.bel g hl)) ?_; rw [hk]; rintro e w3 ⟨rfl, hb3⟩; have HM3 := hide (HK.out.below hb3); have m2 := HM3.out.c0; have m3 := HM3.out.c1; have n0 := HM3.out.d0; have n1 := HM3.out.d1; have o0 := HM3.out.e0; have o1 := HM3.out.e1; clear hb3) | (go_at_call 74; refine (Calls.mono (HQn.out _ HM3.out.bel)) ?_; rintro e w4 ⟨rfl, hb4⟩; have HM4 := hide (HM3.out.below hb4); have m4 := HM4.out.c1; have r0 := HM4.out.d0; have r1 := HM4.out.d1; have r2 := HM4.out.e0; have r3 := HM4.out.e1; clear hb4))
                  exact ⟨⟨n, q, o :: rest, rfl, hq3.2, by omega, hS, HSL.out, HF.out, HM4.out⟩, by simp [intOf]; omega⟩
              · have hk6b : (T.at_ L g == 6) = false := by simpa using hk6
                have hk5b : (T.at_ L g == 5) = false := by simpa using hk5
                have hnm := name_more hTok.out hl (HSP.out hl).1 (HSP.out hl).2 hk hk5 hk6
                have hnl := nameA_le (T := T) (L := L) (i := g) hg.2
                have HF := hide ((fwd_name HGJ.out e hk hk5 hk6 (by simp)).symm.trans HE.out)
                have y3 : (((rest.length : Int) + 1) == 0) = false := by simp; omega
                have HNM := hide hnm
                have HNL := hide hnl
                clear e hk hk5 hk6 hnm hnl
                go_wp2_with (first | (go_at_call 72; refine (Calls.mono HGG.out) ?_; rintro e w2 ⟨rfl, hb2⟩; have HK := hide (HJ.out.below hb2); have k2 := HK.out.c0; have k3 := HK.out.c1; have d0 := HK.out.d0; have d1 := HK.out.d1; have e0 := HK.out.e0; have e1 := HK.out.e1; clear hb2) | (go_at_call 73; refine (Calls.mono (HSj _ HK.out.bel g hl)) ?_; rintro e w3 ⟨rfl, hb3⟩; have HM3 := hide (HK.out.below hb3); have m2 := HM3.out.c0; have m3 := HM3.out.c1; have n0 := HM3.out.d0; have n1 := HM3.out.d1; have o0 := HM3.out.e0; have o1 := HM3.out.e1; clear hb3) | (go_at_call 75; refine (Calls.mono (HN.out _ HM3.out.bel g hg.2)) ?_; rintro e w4 ⟨rfl, hb4⟩; have HM4 := hide (HM3.out.below hb4); have m4 := HM4.out.c1; have r0 := HM4.out.d0; have r1 := HM4.out.d1; have r2 := HM4.out.e0; have r3 := HM4.out.e1; clear hb4))
                have hnm := HNM.out
                exact ⟨⟨n, nameA T L g, o :: rest, rfl, HNL.out.2, by omega, hS, HSL.out, HF.out, HM4.out⟩, by simp [intOf]; omega⟩
end
end Go.Proofs.YtdojcgefiekleaaDoor
