/- Variables: what a binding puts back; Unbind at any depth. No condition but those written. -/
import Derived.Test.YtempnakdpmmmoaaVgj
import Derived.Test.YtempnakdpmmmoaaVgf
namespace Go.Proofs.Ytempnakdpmmmoaa
open Go.RowKit
attribute [local go_sem] neq_cells eql_cells

/-- A note is put back. -/
def Vw.bk (v : Vw) (x : Nte) : Vw := if x.s = 0 ∨ (v.l x.s x.n).isSome = true then v.put x.s x.n x.c else v
def Vw.cutB (v : Vw) (l : List Nte) : Vw := { v with B := l }
theorem unb_step {v : Vw} (ok : v.Ok) {j : Nat} {x : Nte} (hx : v.B[j]? = some x) : ((v.unb (j + 1)).cutB (v.B.take j)).bk x = v.unb j := by
  unfold Vw.bk
  by_cases h0 : x.s = 0
  · rw [if_pos (.inl h0), h0, put_zero]
    refine Vw.ext (funext fun q => ?_) (funext fun k => funext fun q => ?_) rfl rfl rfl
    · show (if q = x.n then x.c else back v.B (j + 1) 0 q (v.d q)) = back v.B j 0 q (v.d q)
      rw [back_step hx, h0]
      by_cases hq : q = x.n
      · rw [if_pos hq, if_pos ⟨rfl, hq⟩]
      · rw [if_neg hq, if_neg fun e => hq e.2]
    · show (v.l k q).map (back v.B (j + 1) k q) = (v.l k q).map (back v.B j k q)
      cases hl : v.l k q with
      | none => rfl
      | some c =>
        have hk := (ok.lr k q (by rw [hl]; rfl)).1
        show some _ = some _
        rw [back_step hx, if_neg fun e => by have := e.1; omega]
  · have hd : ∀ q, back v.B (j + 1) 0 q (v.d q) = back v.B j 0 q (v.d q) := fun q => by rw [back_step hx, if_neg fun e => h0 e.1.symm]
    have hl0 : (((v.unb (j + 1)).cutB (v.B.take j)).l x.s x.n).isSome = (v.l x.s x.n).isSome := by
      show ((v.l x.s x.n).map _).isSome = _
      rw [Option.isSome_map]
    by_cases hl : (v.l x.s x.n).isSome = true
    · rw [if_pos (.inr (by rw [hl0, hl])), put_scope h0]
      refine Vw.ext (funext fun q => hd q) (funext fun k => funext fun q => ?_) rfl rfl rfl
      show (if k = x.s ∧ q = x.n then some x.c else (v.l k q).map (back v.B (j + 1) k q)) = (v.l k q).map (back v.B j k q)
      by_cases hk : k = x.s ∧ q = x.n
      · rw [if_pos hk]
        obtain ⟨rfl, rfl⟩ := hk
        cases he : v.l x.s x.n with
        | none => rw [he] at hl; cases hl
        | some c =>
          show some _ = some _
          rw [back_step hx, if_pos ⟨rfl, rfl⟩]
      · rw [if_neg hk]
        cases v.l k q with
        | none => rfl
        | some c =>
          show some _ = some _
          rw [back_step hx, if_neg hk]
    · rw [if_neg fun e => e.elim h0 fun e => hl (by rw [← hl0]; exact e)]
      refine Vw.ext (funext fun q => hd q) (funext fun k => funext fun q => ?_) rfl rfl rfl
      show (v.l k q).map (back v.B (j + 1) k q) = (v.l k q).map (back v.B j k q)
      cases he : v.l k q with
      | none => rfl
      | some c =>
        show some _ = some _
        rw [back_step hx, if_neg fun e => hl (by rw [← e.1, ← e.2, he]; rfl)]
theorem unb_all (v : Vw) : v.unb v.B.length = v := by
  refine Vw.ext (funext fun q => back_end _ _ _ _) (funext fun k => funext fun q => ?_) rfl (List.take_length ..) rfl
  show (v.l k q).map (back v.B v.B.length k q) = v.l k q
  cases v.l k q with
  | none => rfl
  | some c => show some _ = some _; rw [back_end]
section
variable {W w w' : World} {b : Vb} {s : Vst} {R : Heap}
/-- What the closure leaves. -/
def BackV (W : World) (b : Vb) (s : Vst) (R : Heap) (x : Nte) (w' : World) : Prop := ∃ s', VarsAt W w' b s' R ∧ s'.Ok ∧ s'.view = s.view.bk x
theorem VarsAt.boxAt (h : VarsAt W w b s R) {g : Nat} {t : TypeId} {cs : Array Value} (hg : (g, Ast.cells t cs) ∈ R) : Blk w g t cs := h.own.blk (List.mem_append_right _ hg)
set_option maxRecDepth 100000 in
set_option maxHeartbeats 1000000 in
theorem back_some (h : VarsAt W w b s R) (n sc : Int) (h0 : sc ≠ 0) {en : Ent} (he : s.lcl sc n = some en) (c : Cel) (g1 g2 : Nat) (h1 : (g1, Ast.cells 3 #[.int .i64 sc]) ∈ R) (h2 : (g2, Ast.cells 3 #[.int .i64 n]) ∈ R) :
    Calls Try.prog 36 #[.pointer (some ⟨b.vb, 0, none⟩), .agg #[.int .i64 c.k, .int .i64 c.n, .bool c.b], .pointer (some ⟨g1, 0, none⟩), .pointer (some ⟨g2, 0, none⟩)] w
    fun r w' => r = .returned (.tuple #[]) ∧ VarsAt W w' b (s.upd en.g c) R := by
  have hb := h.box 60 #[.int .i64 c.k, .int .i64 c.n, .bool c.b]
  have k1 : (w.alloc (.cells #[.int .i64 c.k, .int .i64 c.n, .bool c.b] 60)).cell? ⟨g1, 0, none⟩ = some (.int .i64 sc) := (hb.own.blk (g := g1) (List.mem_append_right _ (List.mem_cons_of_mem _ h1))).cell 0
  have k2 : (w.alloc (.cells #[.int .i64 c.k, .int .i64 c.n, .bool c.b] 60)).cell? ⟨g2, 0, none⟩ = some (.int .i64 n) := (hb.own.blk (g := g2) (List.mem_append_right _ (List.mem_cons_of_mem _ h2))).cell 0
  have kc := hb.own.blk (g := w.heap.size) (t := 60) (cs := #[.int .i64 c.k, .int .i64 c.n, .bool c.b]) (by simp)
  have k3 := kc.cell 0
  have k4 := kc.cell 1
  have k5 := kc.cell 2
  have c1 : (w.alloc (.cells #[.int .i64 c.k, .int .i64 c.n, .bool c.b] 60)).cell? ⟨b.vb, 1, none⟩ = some (.map (some b.lb)) := by rw [hb.vb.cell]; rfl
  obtain ⟨mv, l1, l2⟩ := hb.drew.lookups sc n
  rw [he] at l2
  simp only [Option.map_some] at l2
  obtain ⟨q0, q1, q2, f0, f1, f2⟩ := cel_cells (hb.cel (mem_lcl he))
  have HV := hide (hb.drop.drew.store (mem_lcl he) c)
  have hz : decide (sc = 0) = false := by simpa using h0
  clear h hb h1 h2 kc he
  go_enter Try.func36, Try.ntmps36
  go_wp2_with fail
  generalize w.alloc (.cells #[.int .i64 c.k, .int .i64 c.n, .bool c.b] 60) = w1 at *
  go_wp2
  go_region
  go_wp2
  go_end0
  exact ⟨rfl, HV.out⟩
set_option maxRecDepth 100000 in
set_option maxHeartbeats 1000000 in
theorem back_none (h : VarsAt W w b s R) (n sc : Int) (h0 : sc ≠ 0) (he : s.lcl sc n = none) (c : Cel) (g1 g2 : Nat) (h1 : (g1, Ast.cells 3 #[.int .i64 sc]) ∈ R) (h2 : (g2, Ast.cells 3 #[.int .i64 n]) ∈ R) :
    Calls Try.prog 36 #[.pointer (some ⟨b.vb, 0, none⟩), .agg #[.int .i64 c.k, .int .i64 c.n, .bool c.b], .pointer (some ⟨g1, 0, none⟩), .pointer (some ⟨g2, 0, none⟩)] w
    fun r w' => r = .returned (.tuple #[]) ∧ VarsAt W w' b s R := by
  have hb := h.box 60 #[.int .i64 c.k, .int .i64 c.n, .bool c.b]
  have k1 : (w.alloc (.cells #[.int .i64 c.k, .int .i64 c.n, .bool c.b] 60)).cell? ⟨g1, 0, none⟩ = some (.int .i64 sc) := (hb.own.blk (g := g1) (List.mem_append_right _ (List.mem_cons_of_mem _ h1))).cell 0
  have k2 : (w.alloc (.cells #[.int .i64 c.k, .int .i64 c.n, .bool c.b] 60)).cell? ⟨g2, 0, none⟩ = some (.int .i64 n) := (hb.own.blk (g := g2) (List.mem_append_right _ (List.mem_cons_of_mem _ h2))).cell 0
  have c1 : (w.alloc (.cells #[.int .i64 c.k, .int .i64 c.n, .bool c.b] 60)).cell? ⟨b.vb, 1, none⟩ = some (.map (some b.lb)) := by rw [hb.vb.cell]; rfl
  obtain ⟨mv, l1, l2⟩ := hb.drew.lookups sc n
  rw [he] at l2
  simp only [Option.map_none] at l2
  have HV := hide hb.drop.drew
  have hz : decide (sc = 0) = false := by simpa using h0
  clear h hb h1 h2 he
  go_enter Try.func36, Try.ntmps36
  go_wp2_with fail
  generalize w.alloc (.cells #[.int .i64 c.k, .int .i64 c.n, .bool c.b] 60) = w1 at *
  go_wp2
  go_region
  go_wp2
  go_end0
  exact ⟨rfl, HV.out⟩
theorem back_any (h : VarsAt W w b s R) (ok : s.Ok) (x : Nte) (hx : varN x.n) (h1 : (x.g1, Ast.cells 3 #[.int .i64 x.s]) ∈ R) (h2 : (x.g2, Ast.cells 3 #[.int .i64 x.n]) ∈ R) :
    Calls Try.prog 36 #[.pointer (some ⟨b.vb, 0, none⟩), .agg #[.int .i64 x.c.k, .int .i64 x.c.n, .bool x.c.b], .pointer (some ⟨x.g1, 0, none⟩), .pointer (some ⟨x.g2, 0, none⟩)] w
    fun r w' => r = .returned (.tuple #[]) ∧ BackV W b s R x w' := by
  unfold BackV Vw.bk
  by_cases h0 : x.s = 0
  · rw [if_pos (.inl h0), h0]
    rw [h0] at h1
    refine (back_global h x.n x.c x.g1 x.g2 h1 h2).mono ?_
    rintro r w' ⟨rfl, g, hf, hV⟩
    exact ⟨rfl, _, hV, upd_ok (glob_ok ok hx g) g x.c, by rw [upd_def hV hf, glob_view]⟩
  · cases he : s.lcl x.s x.n with
    | some en =>
      rw [if_pos (.inr (by rw [view_l, he]; rfl))]
      refine (back_some h x.n x.s h0 he x.c x.g1 x.g2 h1 h2).mono ?_
      rintro r w' ⟨rfl, hV⟩
      exact ⟨rfl, _, hV, upd_ok ok _ _, upd_loc h ok he x.c⟩
    | none =>
      rw [if_neg fun e => e.elim h0 fun e => by rw [view_l, he] at e; cases e]
      refine (back_none h x.n x.s h0 he x.c x.g1 x.g2 h1 h2).mono ?_
      rintro r w' ⟨rfl, hV⟩
      exact ⟨rfl, _, hV, ok, rfl⟩
theorem Vst.Ok.notes {s : Vst} (h : s.Ok) {l : List Nte} (h1 : ∀ x ∈ l, x ∈ s.notes) (h2 : l.length ≤ 2000) : (s.withNotes l).Ok := ⟨h.dn, h.dr, h.ln, h.lr, h.en, h.sc, fun x hx => h.ns x (h1 x hx), h2⟩
def UnbV (W : World) (b : Vb) (v : Vw) (R : Heap) (w' : World) : Prop := ∃ nv s', VarsAt W w' (b.withNv nv) s' R ∧ s'.Ok ∧ s'.view = v
set_option maxRecDepth 100000 in
set_option maxHeartbeats 4000000 in
theorem unbind_go (h : VarsAt W w b s R) (ok : s.Ok) (d : Nat) (hd : d ≤ s.notes.length) : Calls Try.prog 12 #[.pointer (some ⟨b.vb, 0, none⟩), .int .i64 (d : Int)] w
    fun r w' => r = .returned (.int .i64 0) ∧ UnbV W b (s.view.unb d) R w' := by
  have HM := hide (made_any h)
  obtain ⟨A, c, hv, hc, _⟩ := h.sl.form
  have c3 : w.cell? ⟨b.vb, 3, none⟩ = some (.slice A s.notes.length c) := by rw [h.vb.cell, ← hv]; rfl
  have hz1 : decide ((d : Int) < 0) = false := by simp
  have hz2 : decide (s.notes.length < d) = false := by simp; omega
  have HVO := hide (view_ok ok)
  have HD := hide hd
  have HLEN := hide ok.nl
  have H := hide (And.intro h ok)
  clear h ok hd hv hc
  go_enter Try.func12, Try.ntmps12
  go_wp2_with fail
  refine (Calls.mono (HM.out)) ?_
  rintro e w2 ⟨rfl, rfl⟩
  clear HM
  go_wp2
  go_loopw [] (fun wr => ∃ j nv s', d ≤ j ∧ j ≤ s.notes.length ∧ VarsAt W wr (b.withNv nv) s' R ∧ s'.Ok ∧ s'.view = s.view.unb j) (fun wr => match wr.cell? ⟨b.vb, 3, none⟩ with | some (.slice _ n _) => n | _ => 0)
  case atStart => exact ⟨s.notes.length, b.nv, s, HD.out, Nat.le_refl _, H.out.1, H.out.2, (unb_all s.view).symm⟩
  case round =>
    obtain ⟨j, v, s', hdj, hj, hV, hok, hvw⟩ := hrel
    have hn : s'.notes = s.notes.take j := congrArg Vw.B hvw
    have hlen' : s'.notes.length = j := by rw [hn]; simp; omega
    have hL2 := HLEN.out
    obtain ⟨A2, c2, hv2, hc2, _⟩ := hV.sl.form
    rw [hlen'] at hv2 hc2
    have q3 : wr.cell? ⟨b.vb, 3, none⟩ = some (.slice A2 j c2) := by rw [show wr.cell? ⟨b.vb, 3, none⟩ = _ from hV.vb.cell 3]; show some (b.withNv v).nv = _; rw [hv2]
    by_cases hlt : d < j
    · obtain ⟨i, rfl⟩ : ∃ i, j = i + 1 := ⟨j - 1, by omega⟩
      have hz : decide (d < i + 1) = true := by simp; omega
      obtain ⟨x, hx⟩ : ∃ x, s.notes[i]? = some x := ⟨_, List.getElem?_eq_getElem (by omega)⟩
      have hnx : s'.notes = s.notes.take i ++ [x] := by
        rw [hn, List.take_succ_eq_append_getElem (by omega)]
        congr
        exact (List.getElem?_eq_some_iff.1 hx).2
      have hsl := hV.sl
      obtain ⟨g, off, c4, hv4, _, _, hg, hfz, hcell⟩ := hsl.fld nte_len (by omega)
      have hat : s'.notes[i]? = some x := by rw [hnx]; simp [show (s.notes.take i).length = i by simp; omega]
      obtain ⟨hA2, hcc⟩ : A2 = some ⟨g, off, none⟩ ∧ c2 = c4 := by
        rw [hv4] at hv2
        injection hv2 with e1 _ e2
        exact ⟨e1.symm, e2.symm⟩
      subst hA2 hcc
      have p0 : wr.cell? ⟨g, off + i * 6, none⟩ = some (.int .i64 x.c.k) := hcell i x 0 _ hat rfl
      have p1 : wr.cell? ⟨g, off + i * 6 + 1, none⟩ = some (.int .i64 x.c.n) := hcell i x 1 _ hat rfl
      have p2 : wr.cell? ⟨g, off + i * 6 + 2, none⟩ = some (.bool x.c.b) := hcell i x 2 _ hat rfl
      have p3 : wr.cell? ⟨g, off + i * 6 + 3, none⟩ = some (.int .i64 x.n) := hcell i x 3 _ hat rfl
      have p4 : wr.cell? ⟨g, off + i * 6 + 4, none⟩ = some (.int .i64 x.s) := hcell i x 4 _ hat rfl
      have p5 : wr.cell? ⟨g, off + i * 6 + 5, none⟩ = some (.func (.func 36) #[] #[.pointer (some ⟨x.g1, 0, none⟩), .pointer (some ⟨x.g2, 0, none⟩)]) := hcell i x 5 _ hat rfl
      have f3 : wr.frozen? ⟨b.vb, 3, none⟩ = false := hV.vb.frozen 3
      have hvl : b.vb < wr.heap.size := hV.vb.lt
      have hcut := hV.cut hnx (A := some ⟨g, off, none⟩) (c := c2) hv4
      have hli : (s.notes.take i).length = i := by simp; omega
      rw [hli] at hcut
      have HCUT := hide ((hcut.skip (.cells #[.int .i64 x.c.k, .int .i64 x.c.n, .bool x.c.b, .int .i64 x.n, .int .i64 x.s, .func (.func 36) #[] #[.pointer (some ⟨x.g1, 0, none⟩), .pointer (some ⟨x.g2, 0, none⟩)]] 64)).drew.drew)
      have hxn : varN x.n := (hok.ns x (List.mem_of_getElem? hat)).1
      have hok2 : (s'.withNotes (s.notes.take i)).Ok := hok.notes (fun y hy => by rw [hnx]; exact List.mem_append_left _ hy) (by simp; omega)
      have hst : (s'.withNotes (s.notes.take i)).view.bk x = s.view.unb i := by
        rw [show (s'.withNotes (s.notes.take i)).view = (s.view.unb (i + 1)).cutB (s.view.B.take i) from by
          rw [← hvw]
          rfl]
        exact unb_step HVO.out hx
      have HK := hide (And.intro hxn (And.intro hok2 hst))
      have HI := hide (show d ≤ i ∧ i + 1 ≤ s.notes.length from ⟨by omega, hj⟩)
      have hic : i + 1 ≤ c2 := hc2
      clear hV hn hvw hok hx hnx hsl hcell hfz hat hcut hlen' hli hv4 hv2 hc2 hxn hok2 hst
      have hw : IntKind.i64.wrap (i : Int) = (i : Int) := IntWalk.i64_in _ (by omega)
      have hw2 : (i : Int) < (i : Int) + 1 := by omega
      go_wp2
      go_region
      go_wp2
      go_region
      go_wp2_with fail
      have hV3 := HCUT.out
      refine (back_any (b := b.withNv (.slice (some ⟨g, off, none⟩) i c2)) hV3 HK.out.2.1 x HK.out.1 (List.mem_cons_self ..) (List.mem_cons_of_mem _ (List.mem_cons_self ..))).mono ?_
      rintro r w4 ⟨rfl, s4, hV4, hok4, hvw4⟩
      have HR := hide (show ∃ nv s2, VarsAt W w4 (b.withNv nv) s2 R ∧ s2.Ok ∧ s2.view = s.view.unb i from ⟨_, s4, hV4.drop.drop, hok4, by rw [hvw4]; exact HK.out.2.2⟩)
      have HQ := hide q3
      have HM4 := hide (show ∃ A4 c4, w4.cell? ⟨b.vb, 3, none⟩ = some (.slice A4 i c4) from by
        obtain ⟨v2, s2, h1, h2, h3⟩ := HR.out
        obtain ⟨A4, c4, e4, _⟩ := h1.sl.form
        have hl4 : s2.notes.length = i := by
          have := congrArg Vw.B h3
          rw [show s2.notes = s.notes.take i from this]
          have := HI.out.2
          simp
          omega
        rw [hl4] at e4
        refine ⟨A4, c4, ?_⟩
        rw [show w4.cell? ⟨b.vb, 3, none⟩ = _ from h1.vb.cell 3]
        show some (b.withNv v2).nv = _
        rw [e4])
      clear hV3 hV4 hok4 hvw4
      go_wp2
      go_roundw
      case rel => 
        obtain ⟨v2, s2, h1, h2, h3⟩ := HR.out
        exact ⟨i, v2, s2, HI.out.1, by have := HI.out.2; omega, h1, h2, h3⟩
      case measure =>
        obtain ⟨A4, c4, h4⟩ := HM4.out
        rw [h4, HQ.out]
        exact Nat.lt_succ_self i
    · have hz : decide (d < j) = false := by simp; omega
      have HV := hide (And.intro hV (And.intro hok hvw))
      have HJ := hide (show j = d by omega)
      clear hV hn hok hvw hv2 hlen'
      go_wp2
      go_ret
      refine ⟨rfl, v, s', HV.out.1, HV.out.2.1, ?_⟩
      rw [HV.out.2.2, HJ.out]
set_option maxRecDepth 100000 in
set_option maxHeartbeats 1000000 in
theorem unbind_bad (h : VarsAt W w b s R) (d : Int) (hd : ¬ (0 ≤ d ∧ d ≤ (s.notes.length : Int))) : Calls Try.prog 12 #[.pointer (some ⟨b.vb, 0, none⟩), .int .i64 d] w
    fun r w' => r = .returned (.int .i64 3) ∧ w = w' := by
  have HM := hide (made_any h)
  obtain ⟨A, c, hv, hc, _⟩ := h.sl.form
  have c3 : w.cell? ⟨b.vb, 3, none⟩ = some (.slice A s.notes.length c) := by rw [h.vb.cell, ← hv]; rfl
  generalize s.notes.length = N at *
  clear h hv hc
  by_cases h0 : d < 0
  · have hz1 : decide (d < 0) = true := by simpa using h0
    clear hd
    go_enter Try.func12, Try.ntmps12
    go_wp2_with fail
    refine (Calls.mono (HM.out)) ?_
    rintro e w2 ⟨rfl, rfl⟩
    go_wp2
    go_ret
    exact ⟨rfl, rfl⟩
  · have hz1 : decide (d < 0) = false := by simpa using h0
    have hz2 : decide ((N : Int) < d) = true := by simp; omega
    have hz3 : (N : Int) < d := by omega
    clear hd
    go_enter Try.func12, Try.ntmps12
    go_wp2_with fail
    refine (Calls.mono (HM.out)) ?_
    rintro e w2 ⟨rfl, rfl⟩
    go_wp2
    go_ret
    exact ⟨rfl, rfl⟩
end
end Go.Proofs.Ytempnakdpmmmoaa
