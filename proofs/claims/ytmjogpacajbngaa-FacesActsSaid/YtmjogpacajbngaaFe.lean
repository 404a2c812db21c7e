/- Full: the attributes of a face with those that it inherits. No condition but those written. -/
import Derived.Test.YtmjogpacajbngaaFd
namespace Go.Proofs.Ytmjogpacajbngaa
open Go.RowKit Go.Shelf
attribute [local go_sem] Oper.semAt_some

def fullOf (D : Fm) (xs : List ByteArray) : Att := xs.foldl (fun a s => over a (lookZ D s)) attZero
theorem fullOf_snoc (D : Fm) (pre : List ByteArray) (x : ByteArray) : fullOf D (pre ++ [x]) = over (fullOf D pre) (lookZ D x) := by simp [fullOf]
theorem neq_faces (w : World) (r : Option Nat) : (binOp .neq 58 (.map r) (.map none)).run Try.prog w = .ok (.bool (!r.isNone)) w := run_neq_map_nil w _ _ _ r Try.underlying58
attribute [local go_sem] neq_faces
set_option maxRecDepth 100000 in
theorem made_yes {w : World} {fb mb : Nat} {D : Fm} (h : FaIn w fb mb D) : Calls Try.prog 39 #[.pointer (some ⟨fb, 0, none⟩)] w fun e w' => e = .returned (.bool true) ∧ w = w' := by
  have c0 : w.cell? ⟨fb, 0, none⟩ = some (.map (some mb)) := by rw [h.m.cell]; rfl
  clear h
  go_enter Try.func39, Try.ntmps39
  go_wp2
  go_ret
  exact ⟨rfl, rfl⟩
/-- What holds between two rounds of Full. -/
structure FullI (w : World) (fb mb : Nat) (D : Fm) (pre : List ByteArray) (W : World) : Prop where
  f : Blk W w.heap.size 30 #[.pointer (some ⟨fb, 0, none⟩)]
  r : Blk W (w.heap.size + 1) 23 attZ
  o : Blk W (w.heap.size + 1 + 1 + 1) 23 (fullOf D pre).cells.toArray
  d : FaIn W fb mb D
  b : Below w.heap.size w W
theorem FullI.below {w W W' : World} {fb mb : Nat} {D : Fm} {pre : List ByteArray} (h : FullI w fb mb D pre W) (hb : Below W.heap.size W W') : FullI w fb mb D pre W' :=
  ⟨h.f.below hb h.f.lt, h.r.below hb h.r.lt, h.o.below hb h.o.lt, h.d.below hb, h.b.trans (hb.mono h.b.size)⟩
theorem FullI.frz {w W : World} {fb mb : Nat} {D : Fm} {pre : List ByteArray} (h : FullI w fb mb D pre W) : W.frozen? ⟨w.heap.size + 1 + 1 + 1, 0, none⟩ = false ∧ W.frozen? ⟨w.heap.size + 1 + 1 + 1, 1, none⟩ = false ∧ W.frozen? ⟨w.heap.size + 1 + 1 + 1, 2, none⟩ = false ∧ W.frozen? ⟨w.heap.size + 1 + 1 + 1, 3, none⟩ = false ∧ W.frozen? ⟨w.heap.size + 1 + 1 + 1, 4, none⟩ = false ∧ W.frozen? ⟨w.heap.size + 1 + 1 + 1, 5, none⟩ = false :=
  ⟨h.o.frozen _, h.o.frozen _, h.o.frozen _, h.o.frozen _, h.o.frozen _, h.o.frozen _⟩
/-- Six stores into a block. -/
theorem six_only (W : World) (g : Nat) (a : Att) : Only (· = g) W ((((((W.setCell ⟨g, 0, none⟩ (.int .i64 a.fo)).setCell ⟨g, 1, none⟩ (.int .i64 a.ba)).setCell ⟨g, 2, none⟩ (.int .i64 a.bo)).setCell ⟨g, 3, none⟩ (.int .i64 a.un)).setCell ⟨g, 4, none⟩ (.int .i64 a.iv)).setCell ⟨g, 5, none⟩ (.string a.inh)) := ((((((Only.refl (· = g) W).setCell (p := ⟨g, 0, none⟩) (.inl rfl) _).setCell (p := ⟨g, 1, none⟩) (.inl rfl) _).setCell (p := ⟨g, 2, none⟩) (.inl rfl) _).setCell (p := ⟨g, 3, none⟩) (.inl rfl) _).setCell (p := ⟨g, 4, none⟩) (.inl rfl) _).setCell (p := ⟨g, 5, none⟩) (.inl rfl) _
theorem six_blk {W : World} {g : Nat} {t : TypeId} {b : Att} (h : Blk W g t b.cells.toArray) (a : Att) : Blk ((((((W.setCell ⟨g, 0, none⟩ (.int .i64 a.fo)).setCell ⟨g, 1, none⟩ (.int .i64 a.ba)).setCell ⟨g, 2, none⟩ (.int .i64 a.bo)).setCell ⟨g, 3, none⟩ (.int .i64 a.un)).setCell ⟨g, 4, none⟩ (.int .i64 a.iv)).setCell ⟨g, 5, none⟩ (.string a.inh)) g t a.cells.toArray := (((((h.set_ 0 (.int .i64 a.fo)).set_ 1 (.int .i64 a.ba)).set_ 2 (.int .i64 a.bo)).set_ 3 (.int .i64 a.un)).set_ 4 (.int .i64 a.iv)).set_ 5 (.string a.inh)
theorem full_step {w W W2 : World} {fb mb : Nat} {D : Fm} {pre : List ByteArray} (h2 : FullI w fb mb D pre W2) (hb : Below W.heap.size W W2) (hfl : fb < w.heap.size) (hml : mb < w.heap.size) (x : ByteArray) :
    (∀ k, k < W.heap.size → k ≠ w.heap.size + 1 + 1 + 1 → ((((((W2.setCell ⟨w.heap.size + 1 + 1 + 1, 0, none⟩ (.int .i64 (over (fullOf D pre) (lookZ D x)).fo)).setCell ⟨w.heap.size + 1 + 1 + 1, 1, none⟩ (.int .i64 (over (fullOf D pre) (lookZ D x)).ba)).setCell ⟨w.heap.size + 1 + 1 + 1, 2, none⟩ (.int .i64 (over (fullOf D pre) (lookZ D x)).bo)).setCell ⟨w.heap.size + 1 + 1 + 1, 3, none⟩ (.int .i64 (over (fullOf D pre) (lookZ D x)).un)).setCell ⟨w.heap.size + 1 + 1 + 1, 4, none⟩ (.int .i64 (over (fullOf D pre) (lookZ D x)).iv)).setCell ⟨w.heap.size + 1 + 1 + 1, 5, none⟩ (.string (over (fullOf D pre) (lookZ D x)).inh)).heap[k]? = W.heap[k]?) ∧ FullI w fb mb D (pre ++ [x]) ((((((W2.setCell ⟨w.heap.size + 1 + 1 + 1, 0, none⟩ (.int .i64 (over (fullOf D pre) (lookZ D x)).fo)).setCell ⟨w.heap.size + 1 + 1 + 1, 1, none⟩ (.int .i64 (over (fullOf D pre) (lookZ D x)).ba)).setCell ⟨w.heap.size + 1 + 1 + 1, 2, none⟩ (.int .i64 (over (fullOf D pre) (lookZ D x)).bo)).setCell ⟨w.heap.size + 1 + 1 + 1, 3, none⟩ (.int .i64 (over (fullOf D pre) (lookZ D x)).un)).setCell ⟨w.heap.size + 1 + 1 + 1, 4, none⟩ (.int .i64 (over (fullOf D pre) (lookZ D x)).iv)).setCell ⟨w.heap.size + 1 + 1 + 1, 5, none⟩ (.string (over (fullOf D pre) (lookZ D x)).inh)) := by
  have ho := six_only W2 (w.heap.size + 1 + 1 + 1) (over (fullOf D pre) (lookZ D x))
  refine ⟨fun k hk hne => (ho.block k (Nat.lt_of_lt_of_le hk hb.size) hne).trans (hb.block k hk), ?_, ?_, ?_, ⟨?_, ?_⟩, ?_⟩
  · exact h2.f.only ho (by omega)
  · exact h2.r.only ho (by omega)
  · rw [fullOf_snoc]
    exact six_blk h2.o _
  · exact h2.d.m.only ho (by omega)
  · exact h2.d.d.only ho (by omega)
  · exact h2.b.trans (ho.below h2.b.size (fun i hi => by omega))
theorem results_row2 {fn : Func} {p u : Tmp} {ty : TypeId} {tmps : Array Value} {P : Program} {w : World} {a : Addr} {v x : Value} (h : fn.results = #[.cell p ty, .tmp u]) (hp : tmps.getD p undef = .pointer (some a)) (hl : (loadVar ty a).run P w = .ok v w) (hu : tmps.getD u undef = x) : (results fn tmps).run P w = .ok (.tuple #[v, x]) w := by
  rw [results_cell_tmp h, hp, hu]
  have : ((asAddr (.pointer (some a))).run P w) = .ok a w := by simp [asAddr]
  rw [this, Result.andThen_ok, hl, Result.andThen_ok]
set_option maxRecDepth 100000 in
set_option maxHeartbeats 8000000 in
theorem full_yes {w : World} {fb mb : Nat} {D : Fm} (h : FaIn w fb mb D) (name : ByteArray) (xs : List ByteArray) (hx : Chain D name xs) (hk : (look D name).isSome = true) : Calls Try.prog 26 #[.pointer (some ⟨fb, 0, none⟩), .string name] w fun e w' => e = .returned (.tuple #[(fullOf D xs).val, .int .i64 0]) ∧ Below w.heap.size w w' := by
  refine (callsIn_wide (n := 5)).1 ?_
  have hB1 : Below w.heap.size w ((w.alloc (.cells #[.pointer (some ⟨fb, 0, none⟩)] 30)).alloc (.cells attZ 23)) := ((Below.refl _ w).alloc (Nat.le_refl _) _).alloc (by simp) _
  have h1 := h.below hB1
  have HM := hide (made_yes h1)
  have c0 : ((w.alloc (.cells #[.pointer (some ⟨fb, 0, none⟩)] 30)).alloc (.cells attZ 23)).cell? ⟨fb, 0, none⟩ = some (.map (some mb)) := by rw [h1.m.cell]; rfl
  have c00 : w.cell? ⟨fb, 0, none⟩ = some (.map (some mb)) := by rw [h.m.cell]; rfl
  have hlk := face_lookup2 h1.d name
  rw [hk] at hlk
  refine callsIn_of_wp_marks Try.func26 rfl trivial ?_ rfl
  simp only [Try.ntmps26, List.size_toArray, List.length_cons, List.length_nil, Nat.reduceAdd, Nat.reduceSub, Array.replicate_succ, Array.replicate_zero, List.push_toArray, List.append_toArray, List.nil_append, List.cons_append]
  gi_wp2_with (first
    | (refine ⟨trivial, ?_⟩; gi_at_call 39; refine (callsIn_wide.2 HM.out).mono ?_; rintro e w' ⟨rfl, rfl⟩)
    | (refine ⟨trivial, ?_⟩; gi_at_call 49; refine (callsIn_wide.2 (chain_any (some ⟨fb, 0, none⟩) name _)).mono ?_; rintro e w' ⟨rfl, rfl⟩))
  clear HM c0 c00 hlk
  obtain ⟨W0, hW0⟩ : ∃ W0, W0 = ((((((w.alloc (.cells #[.pointer (some ⟨fb, 0, none⟩)] 30)).alloc (.cells attZ 23)).alloc (.cells #[.int .i64 (lookZ D name).fo, .int .i64 (lookZ D name).ba, .int .i64 (lookZ D name).bo, .int .i64 (lookZ D name).un, .int .i64 (lookZ D name).iv, .string (lookZ D name).inh] 23)).alloc (.cells #[.int .i64 0, .int .i64 0, .int .i64 0, .int .i64 0, .int .i64 0, .string ⟨#[]⟩] 23)).alloc (.cells #[.pointer (some ⟨fb, 0, none⟩)] 30)).alloc (.cells #[.string name] 9)) := ⟨_, rfl⟩
  have hsz : W0.heap.size = w.heap.size + 6 := by rw [hW0]; simp
  have hB4 : Below w.heap.size w ((((w.alloc (.cells #[.pointer (some ⟨fb, 0, none⟩)] 30)).alloc (.cells attZ 23)).alloc (.cells #[.int .i64 (lookZ D name).fo, .int .i64 (lookZ D name).ba, .int .i64 (lookZ D name).bo, .int .i64 (lookZ D name).un, .int .i64 (lookZ D name).iv, .string (lookZ D name).inh] 23)).alloc (.cells #[.int .i64 0, .int .i64 0, .int .i64 0, .int .i64 0, .int .i64 0, .string ⟨#[]⟩] 23)) := (hB1.alloc (by simp; omega) _).alloc (by simp; omega) _
  have hB0 : Below w.heap.size w W0 := by
    rw [hW0]
    exact (hB4.alloc (by simp; omega) _).alloc (by simp; omega) _
  have hb2 : Blk W0 w.heap.size 30 #[.pointer (some ⟨fb, 0, none⟩)] := by
    rw [hW0]
    exact (((((Blk.new w _ _).alloc _).alloc _).alloc _).alloc _).alloc _
  have hb4 : Blk W0 (w.heap.size + 1) 23 attZ := by
    rw [hW0]
    have := Blk.new (w.alloc (.cells #[.pointer (some ⟨fb, 0, none⟩)] 30)) 23 attZ
    rw [World.size_alloc] at this
    exact (((this.alloc _).alloc _).alloc _).alloc _
  have hb8 : Blk W0 (w.heap.size + 1 + 1 + 1) 23 (fullOf D []).cells.toArray := by
    rw [hW0]
    have := Blk.new (((w.alloc (.cells #[.pointer (some ⟨fb, 0, none⟩)] 30)).alloc (.cells attZ 23)).alloc (.cells #[.int .i64 (lookZ D name).fo, .int .i64 (lookZ D name).ba, .int .i64 (lookZ D name).bo, .int .i64 (lookZ D name).un, .int .i64 (lookZ D name).iv, .string (lookZ D name).inh] 23)) 23 #[.int .i64 0, .int .i64 0, .int .i64 0, .int .i64 0, .int .i64 0, .string ⟨#[]⟩]
    simp only [World.size_alloc] at this
    exact (this.alloc _).alloc _
  have hch : ChAt W0 (w.heap.size + 1 + 1 + 1 + 1 + 1) (w.heap.size + 1 + 1 + 1 + 1) fb mb D name := by
    have := chat_start (h.below hB4) name
    simp only [World.size_alloc] at this
    rw [hW0]
    exact this
  have hfa : FaIn W0 fb mb D := h.below hB0
  have hfl := h.m.lt
  have hml := h.d.lt
  rw [← hW0]
  clear hW0 hB1 hB4 h1 h
  refine range_turns (F := Fence.wide) (n := 5) (w := W0) rfl (by decide) (gf := 56) (lb := #[.pointer (some ⟨w.heap.size + 1 + 1 + 1 + 1 + 1, 0, none⟩), .pointer (some ⟨w.heap.size + 1 + 1 + 1 + 1, 0, none⟩)]) rfl trivial (enters_of Try.func56 (by kernel_rfl) rfl)
    (chain_turns Fence.wide 4 trivial rfl (by decide) hch hx) (fun b hb => by omega) (fun h k => ⟨k.1.trans h.1, k.2.1.trans h.2.1, k.2.2.1.trans h.2.2.1, k.2.2.2.trans h.2.2.2⟩)
    (fun A C hlt ho => ⟨ho.block _ (by omega) (by omega), ho.block _ (by omega) (by omega), ho.block _ (by omega) (by omega), ho.block _ (by omega) (by omega)⟩) (fun _ => rfl)
    (FullI w fb mb D)
    (fun _ _ _ => False)
    (fun pre A C hs ho => ⟨hs.f.only ho (by unfold Mine; omega), hs.r.only ho (by unfold Mine; omega), hs.o.only ho (by unfold Mine; omega), ⟨hs.d.m.only ho (by unfold Mine; omega), hs.d.d.only ho (by unfold Mine; omega)⟩, hs.b.trans (ho.below hs.b.size (fun i hi => by unfold Mine at hi; omega))⟩)
    (fun c pre A C hs ho => hs)
    ⟨hb2, hb4, hb8, hfa, hB0⟩
    (fun x => { tmps := #[.pointer (some ⟨fb, 0, none⟩), .string name, .pointer (some ⟨w.heap.size, 0, none⟩), undef, .pointer (some ⟨w.heap.size + 1, 0, none⟩), .int .i64 0, .pointer (some ⟨w.heap.size + 1 + 1, 0, none⟩), .bool true, .pointer (some ⟨w.heap.size + 1 + 1 + 1, 0, none⟩), .string x, .pointer (some ⟨fb, 0, none⟩), .bool true, .bool false, undef, .tuple #[(lookZ D name).val, .bool true], .pointer (some ⟨fb, 0, none⟩), .pointer (some ⟨fb, 0, none⟩), .pointer (some ⟨fb, 0, none⟩), .map (some mb), .string name, .tuple #[(lookZ D name).val, .bool true], (lookZ D name).val, .bool true, .bool true, .bool false, undef, .pointer (some ⟨fb, 0, none⟩), .string name, .func (.func 56) #[] #[.pointer (some ⟨w.heap.size + 1 + 1 + 1 + 1 + 1, 0, none⟩), .pointer (some ⟨w.heap.size + 1 + 1 + 1 + 1, 0, none⟩)], .string x, undef, undef, undef, undef, undef, undef, undef, undef, undef], defers := [] }) ?assign ?body ?done ?stop
  case assign =>
    intro l x W K hK
    gi_wp2
    exact hK
  case body =>
    rintro l pre x W hlt hs _
    have c2 : W.cell? ⟨w.heap.size, 0, none⟩ = some (.pointer (some ⟨fb, 0, none⟩)) := by rw [hs.f.cell]; rfl
    have cf : W.cell? ⟨fb, 0, none⟩ = some (.map (some mb)) := by rw [hs.d.m.cell]; rfl
    obtain ⟨o0, o1, o2, o3, o4, o5⟩ := hs.o.att
    have hlk0 := face_lookup hs.d.d x
    have hlk := face_lookup hs.d.d.drew x
    have HS := hide hs
    clear hs
    gi_wp2
    have hn : ∀ k, k < w.heap.size → k < W.heap.size ∧ k ≠ w.heap.size + 1 + 1 + 1 := fun k hk => ⟨by omega, by omega⟩
    have HA := hide (show (W0.heap.size < W.heap.size ∧ W0.heap.size ≠ w.heap.size + 1 + 1 + 1) ∧ (W0.heap.size + 1 < W.heap.size ∧ W0.heap.size + 1 ≠ w.heap.size + 1 + 1 + 1) ∧ (w.heap.size + 1 + 1 + 1 + 1 + 1 < W.heap.size ∧ w.heap.size + 1 + 1 + 1 + 1 + 1 ≠ w.heap.size + 1 + 1 + 1) ∧ (w.heap.size + 1 + 1 + 1 + 1 < W.heap.size ∧ w.heap.size + 1 + 1 + 1 + 1 ≠ w.heap.size + 1 + 1 + 1) ∧ (fb < W.heap.size ∧ fb ≠ w.heap.size + 1 + 1 + 1) ∧ (mb < W.heap.size ∧ mb ≠ w.heap.size + 1 + 1 + 1) from
      ⟨⟨by omega, by omega⟩, ⟨by omega, by omega⟩, ⟨by omega, by omega⟩, ⟨by omega, by omega⟩, hn _ hfl, hn _ hml⟩)
    have HFL := hide hfl
    have HML := hide hml
    have HSZ := hide hsz
    clear hn hfl hml hlt
    have hfn : Fence.wide.fn 11 := trivial
    gi_region_with (gi_at_call 11; refine (CallsIn.inRound l (callsIn_wide.2 (over_any (fullOf D pre) (lookZ D x) _))).mono ?_; rintro e w2 ⟨rfl, hb⟩; have H2 := hide (HS.out.below (((Below.refl _ W).drew).trans hb)); have HF := hide (full_step H2.out (((Below.refl _ W).drew).trans hb) HFL.out HML.out x); clear hb; obtain ⟨p0, p1, p2, p3, p4, p5⟩ := H2.out.o.att; obtain ⟨f0, f1, f2, f3, f4, f5⟩ := H2.out.frz)
    all_goals
      exact ⟨⟨HF.out.1 _ HA.out.1.1 HA.out.1.2, HF.out.1 _ HA.out.2.1.1 HA.out.2.1.2⟩, ⟨HF.out.1 _ HA.out.2.2.1.1 HA.out.2.2.1.2, HF.out.1 _ HA.out.2.2.2.1.1 HA.out.2.2.2.1.2, HF.out.1 _ HA.out.2.2.2.2.1.1 HA.out.2.2.2.2.1.2, HF.out.1 _ HA.out.2.2.2.2.2.1 HA.out.2.2.2.2.2.2⟩, HF.out.2⟩
  case done =>
    rintro W hs hK
    obtain ⟨o0, o1, o2, o3, o4, o5⟩ := hs.o.att
    obtain ⟨r0, r1, r2, r3, r4, r5⟩ := Blk.att (a := attZero) hs.r
    have e0 := hs.r.frozen 0
    have e1 := hs.r.frozen 1
    have e2 := hs.r.frozen 2
    have e3 := hs.r.frozen 3
    have e4 := hs.r.frozen 4
    have e5 := hs.r.frozen 5
    have ho := six_only W (w.heap.size + 1) (fullOf D xs)
    have hK' := (ho.block W0.heap.size (lt_of_heap hK) (by omega)).trans hK
    have HS := hide ((six_blk (b := attZero) hs.r (fullOf D xs)).same (World.putObj_heap_other (r := W0.heap.size) (k := w.heap.size + 1) (o := .deferred none) (by omega)))
    have HB := hide ((hs.b.trans (ho.below hs.b.size (fun i hi => by omega))).trans ((only_putObj ((((((W.setCell ⟨w.heap.size + 1, 0, none⟩ (.int .i64 (fullOf D xs).fo)).setCell ⟨w.heap.size + 1, 1, none⟩ (.int .i64 (fullOf D xs).ba)).setCell ⟨w.heap.size + 1, 2, none⟩ (.int .i64 (fullOf D xs).bo)).setCell ⟨w.heap.size + 1, 3, none⟩ (.int .i64 (fullOf D xs).un)).setCell ⟨w.heap.size + 1, 4, none⟩ (.int .i64 (fullOf D xs).iv)).setCell ⟨w.heap.size + 1, 5, none⟩ (.string (fullOf D xs).inh)) W0.heap.size (.deferred none)).below (B := w.heap.size) (Nat.le_trans hs.b.size ho.size) (fun i hi => by omega)))
    have HK := hide hK'
    clear hs hK hK' ho
    rw [hsz] at HK HS HB
    have HLD := hide (run_loadVar_row (P := Try.prog) _ (w.heap.size + 1) 23 23 (fullOf D xs).cells.toArray (0, 0) _ HS.out Try.underlying23 rfl (by kernel_rfl))
    gi_wp2
    refine ⟨by simp, .inl ⟨_, _, rfl, run_takeDeferred HK.out, ?_⟩⟩
    exact ⟨.tuple #[(fullOf D xs).val, .int .i64 0], results_row2 rfl rfl HLD.out rfl, rfl, HB.out⟩
  case stop =>
    rintro c pre W hpre hf hK
    exact hf.elim
end Go.Proofs.Ytmjogpacajbngaa
