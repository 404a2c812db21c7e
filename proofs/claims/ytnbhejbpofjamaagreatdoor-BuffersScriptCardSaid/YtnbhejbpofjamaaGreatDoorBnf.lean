/- A text is copied. No condition but those written. -/
import Derived.Test.YtnbhejbpofjamaaGreatDoorBna
import Derived.Laws.Externs
import Derived.MapKept
namespace Go.Proofs.YtnbhejbpofjamaaGreatDoor
open Go.RowKit

theorem Sl.owned {w : World} {T : TypeId} {k n g : Nat} {v : Value} {xs : List Value} (h : Sl w T k v n xs) (hg : v.ownBlock = some g) : ∃ off c, v = .slice (some ⟨g, off, none⟩) n c ∧ n ≤ c ∧ c ≤ maxLen := by
  rcases h.2 with ⟨rfl, _⟩ | ⟨g', off, cap, cs, rfl, _, h1, h2, _⟩
  · simp [Value.ownBlock] at hg
  · simp [Value.ownBlock] at hg
    subst hg
    exact ⟨off, cap, rfl, h1, h2⟩
theorem info_rune4 : (Tryz.prog.info? 21).map (fun i => (i.zero, i.size, i.bytes)) = some (some (.int .i32 0), 1, 4) := by kernel_rfl
attribute [local go_sem] eql_runes eql_intsl
theorem runs_cell (B : List Nat) : ∀ u ∈ runs B, u.oneCell' = true := by
  intro u hu
  obtain ⟨c, _, rfl⟩ := List.mem_map.1 hu
  rfl
def FreshR (w : World) (T n : Nat) (xs : List Value) (e : Ending) (w' : World) : Prop := ∃ g off c, e = .returned (.slice (some ⟨g, off, none⟩) n c) ∧ Sl w' T 1 (.slice (some ⟨g, off, none⟩) n c) n xs ∧ w.heap.size ≤ g ∧ Below w.heap.size w w'
set_option maxRecDepth 100000 in
set_option maxHeartbeats 2000000 in
theorem clone_runes (a : Addr) (n c : Nat) (xs : List Value) (w : World) (h : Rd w (.slice (some a) n c) 1 n xs) (hx : ∀ u ∈ xs, u.oneCell' = true) (hN : n ≤ 1000000) :
    Calls Tryz.prog 126 #[.slice (some a) n c] w (FreshR w 21 n xs) := by
  obtain ⟨i0, hi, hz0, hz1, hz2⟩ := info_parts info_rune4
  have he := Sl.new w 21 1 #[] 0 0 (Nat.le_refl _) (by simp [maxLen]) (by simp)
  have he2 : Sl (w.alloc (.cells #[] 21)) 21 1 (.slice (some ⟨w.heap.size, 0, none⟩) 0 0) 0 [] := by simpa using he
  have hB : Below w.heap.size w (w.alloc (.cells #[] 21)) := (Below.refl _ _).alloc (Nat.le_refl _) _
  have hr : Rd (w.alloc (.cells #[] 21)) (.slice (some a) n c) 1 n xs := h.only (Only.of_below hB) fun _ _ f => f
  go_enter Tryz.func126, Tryz.ntmps126
  go_wp2_with (at_builtin; go_loud (refine wpList_append_sl rfl (.tmp 5) (.tmp 6) 162 rfl 21 i0 _ 1 4 Tryz.underlying162 hi hz0 hz1 hz2 rfl _ 0 [] rfl he2 _ rfl n xs hr hx ?b1 ?b2 ?_))
  case b1 => unfold maxLen; omega
  case b2 => omega
  intro v' w' hsl honly hv'
  have HB := hide (hB.trans (honly.below (B := w.heap.size) (by simp) fun i hi => by simp [Value.ownBlock] at hi; omega))
  have hs2 : Sl w' 21 1 v' n xs := by simpa using hsl
  obtain ⟨g, hg, hg2⟩ : ∃ g, v'.ownBlock = some g ∧ w.heap.size ≤ g := by
    rcases hv' with e | e
    · exact ⟨w.heap.size, e, Nat.le_refl _⟩
    · exact ⟨_, e, by simp⟩
  obtain ⟨off, c2, rfl, _, _⟩ := hs2.owned hg
  have HS := hide hs2
  have HG := hide hg2
  clear hsl honly hv' hB he h hs2 hg hg2
  go_wp2
  go_ret
  exact ⟨_, _, _, rfl, HS.out, HG.out, HB.out⟩
/-! ### Copy -/
/-- What holds of a text's place beside where it lies. -/
structure GOk (b : Gb) (L : List Nat) : Prop where
  okf : RowOk b.fv b.g.F.length
  le1 : b.g.st ≤ b.g.en
  le2 : b.g.en ≤ b.g.B.length
  lim : b.g.B.length ≤ 131104
  ok : b.g.Ok L
theorem TextAt.gok {W w : World} {b : Gb} {L : List Nat} {R : Heap} (h : TextAt W w b L R) : GOk b L := ⟨h.gap.okf, h.gap.le1, h.gap.le2, h.gap.lim, h.ok⟩
theorem GOk.at_ {W w : World} {b : Gb} {L : List Nat} {R : Heap} (h : GOk b L) (ho : Own W w (b.heap ++ R)) : TextAt W w b L R := ⟨⟨ho, h.okf, h.le1, h.le2, h.lim⟩, h.ok⟩
section
variable {W w w' : World} {L : List Nat} {R : Heap}
def CopyG (W w : World) (b : Gb) (L : List Nat) (R : Heap) (e : Ending) (w' : World) : Prop := ∃ b2 : Gb, e = .returned (.pointer (some ⟨b2.tb, 0, none⟩)) ∧ Own W w' (b.heap ++ (b2.heap ++ R)) ∧ GOk b2 L ∧ Below w.heap.size w w'
theorem copied {w1 w2 : World} {b : Gb} {g1 o1 c1 n m : Nat} {v2 : Value} (h : TextAt W w b L R) (hn : n = b.g.B.length) (hm : m = b.g.F.length) (hb1 : Below w.heap.size w w1) (hs1 : Sl w1 21 1 (.slice (some ⟨g1, o1, none⟩) n c1) n (runs b.g.B)) (hg1 : w.heap.size ≤ g1)
    (hb2 : Below w1.heap.size w1 w2) (hs2 : Sl w2 3 1 v2 m (ints b.g.F)) (hg2 : ∀ g, v2.ownBlock = some g → w1.heap.size ≤ g) :
    CopyG W w b L R (.returned (.pointer (some ⟨w2.heap.size, 0, none⟩))) (w2.alloc (.cells #[.slice (some ⟨g1, o1, none⟩) n c1, .int .i64 (b.g.st : Int), .int .i64 (b.g.en : Int), v2] 164)) := by
  subst hn hm
  have h1 := h.gap.own.joinRow hb1 hs1 (fun g hg => by simp [Value.ownBlock] at hg; omega)
  have h2 := h1.joinRow hb2 hs2 hg2
  have h3 := h2.newCells 164 #[.slice (some ⟨g1, o1, none⟩) b.g.B.length c1, .int .i64 (b.g.st : Int), .int .i64 (b.g.en : Int), v2]
  refine ⟨⟨w2.heap.size, g1, o1, c1, v2, b.g⟩, rfl, h3.perm ?_, ⟨hs2.rowOk, h.gap.le1, h.gap.le2, h.gap.lim, h.ok⟩, (hb1.trans (hb2.mono hb1.size)).alloc (Nat.le_trans hb1.size hb2.size) _⟩
  rw [rowOf_some (show (Value.slice (some ⟨g1, o1, none⟩) b.g.B.length c1).ownBlock = some g1 from rfl)]
  show List.Perm ((w2.heap.size, Ast.cells 164 #[.slice (some ⟨g1, o1, none⟩) b.g.B.length c1, .int .i64 (b.g.st : Int), .int .i64 (b.g.en : Int), v2]) :: (rowOf 3 1 v2 b.g.F.length (ints b.g.F) ++ ([(g1, Ast.row 21 1 (.slice (some ⟨g1, o1, none⟩) b.g.B.length c1) b.g.B.length (runs b.g.B))] ++ (b.heap ++ R)))) (b.heap ++ (((w2.heap.size, Ast.cells 164 #[.slice (some ⟨g1, o1, none⟩) b.g.B.length c1, .int .i64 (b.g.st : Int), .int .i64 (b.g.en : Int), v2]) :: (g1, Ast.row 21 1 (.slice (some ⟨g1, o1, none⟩) b.g.B.length c1) b.g.B.length (runs b.g.B)) :: rowOf 3 1 v2 b.g.F.length (ints b.g.F)) ++ R))
  classical
  rw [List.perm_iff_count]
  intro x
  simp only [List.count_append, List.count_cons, List.count_nil]
  omega
set_option maxRecDepth 100000 in
set_option maxHeartbeats 8000000 in
theorem gcopy_any {b : Gb} (h : TextAt W w b L R) : Calls Tryz.prog 84 #[.pointer (some ⟨b.tb, 0, none⟩)] w (CopyG W w b L R) := by
  have HN := hide (none_any h.gap)
  have HH := hide h
  obtain ⟨A2, d2, hv2, _, _⟩ := h.gap.slF.form
  have hlim := h.gap.lim
  have hF : b.g.F.length ≤ 65536 := by rw [h.ok.feed]; have := feeds_le 1 L; have := h.ok.size; omega
  obtain ⟨n, hn⟩ : ∃ n, n = b.g.B.length := ⟨_, rfl⟩
  obtain ⟨m, hm⟩ : ∃ m, m = b.g.F.length := ⟨_, rfl⟩
  have HC1 := hide (fun (w1 : World) (hb : Below w.heap.size w w1) => (show Calls Tryz.prog 126 #[.slice (some ⟨b.bb, b.bo, none⟩) n b.bc] w1 (FreshR w1 21 n (runs b.g.B)) from by
    rw [hn]
    exact clone_runes _ _ _ _ _ (h.gap.below hb).slB.rd (runs_cell _) (by omega)))
  have HC2 := hide (fun (w1 : World) (hb : Below w.heap.size w w1) => (show Calls Tryz.prog 45 #[.slice A2 m d2] w1 (FreshI w1 3 m (ints b.g.F)) from by
    rw [hm, ← hv2]
    exact clone_ints _ _ _ _ (h.gap.below hb).slF.rd (ints_one _) (by omega)))
  have HK := hide (fun (w1 : World) (hb : Below w.heap.size w w1) => (show w1.cell? ⟨b.tb, 0, none⟩ = some (.slice (some ⟨b.bb, b.bo, none⟩) n b.bc) ∧ w1.cell? ⟨b.tb, 1, none⟩ = some (.int .i64 (b.g.st : Int)) ∧ w1.cell? ⟨b.tb, 2, none⟩ = some (.int .i64 (b.g.en : Int)) ∧ w1.cell? ⟨b.tb, 3, none⟩ = some (.slice A2 m d2) from
    ⟨by rw [hn]; exact (h.gap.below hb).c0, (h.gap.below hb).c1, (h.gap.below hb).c2, by rw [hm, ← hv2]; exact (h.gap.below hb).c3⟩))
  have HNN := hide hn
  have HMM := hide hm
  have B0 := hide (show Below w.heap.size w w.drew from (Below.refl _ _).drew)
  obtain ⟨c0, c1, c2, c3⟩ := HK.out w (Below.refl _ _)
  obtain ⟨gs, hgs⟩ : ∃ gs : Int, gs = (b.g.st : Int) := ⟨_, rfl⟩
  obtain ⟨ge, hge⟩ : ∃ ge : Int, ge = (b.g.en : Int) := ⟨_, rfl⟩
  rw [← hgs] at c1 HK
  rw [← hge] at c2 HK
  have HGS := hide hgs
  have HGE := hide hge
  clear h hv2 hlim hF hn hm hgs hge
  go_enter Tryz.func84, Tryz.ntmps84
  go_wp2_with fail
  refine (Calls.mono (HN.out)) ?_
  rintro r w2 ⟨rfl, rfl⟩
  go_wp2_with fail
  go_region_held3 (fun w' => w'.cell? ⟨b.tb, 0, none⟩ = some (.slice (some ⟨b.bb, b.bo, none⟩) n b.bc) ∧ w'.cell? ⟨b.tb, 1, none⟩ = some (.int .i64 gs) ∧ w'.cell? ⟨b.tb, 2, none⟩ = some (.int .i64 ge) ∧ w'.cell? ⟨b.tb, 3, none⟩ = some (.slice A2 m d2))
    (first | exact HK.out _ B0.out | exact HK.out _ B1.out | exact HK.out _ B2.out | exact HK.out _ (B2.out.alloc B2.out.size _))
    ((first
      | (go_at_call 126; refine (HC1.out _ B0.out).mono ?_; rintro r w1 ⟨g1, o1, k1, rfl, hs1, hg1, hb1⟩; have HB1 := hide hb1; have B1 := hide (B0.out.trans hb1); have HS1 := hide hs1; have HG1 := hide hg1; clear hs1 hg1 hb1)
      | (go_at_call 45; refine (HC2.out _ B1.out).mono ?_; rintro r w2 ⟨v2, rfl, hs2, hg2, hb2⟩; have HB2 := hide hb2; have B2 := hide (B1.out.trans (hb2.mono B1.out.size)); have HS2 := hide hs2; have HG2 := hide hg2; obtain ⟨A3, d3, rfl, _, _⟩ := hs2.form; clear hs2 hg2 hb2)))
  have HF := hide (copied HH.out HNN.out HMM.out B1.out HS1.out (HG1.out) HB2.out HS2.out HG2.out)
  rw [← HGS.out, ← HGE.out] at HF
  go_wp2
  go_ret
  exact HF.out
end
end Go.Proofs.YtnbhejbpofjamaaGreatDoor
namespace Go.Proofs.YtnbhejbpofjamaaGreatDoor
open Go.RowKit

theorem run_assert_map {P : Program} (w : World) (t xT k e : TypeId) (v : Value) (h : P.underlying t = some (.map k e)) : (Instr.typeAssert (.iface t v) xT t false).run P w = .ok v w := by
  simp [Instr.typeAssert, run_underlying h, go_sem, Result.andThen]
theorem run_clone {P : Program} {r : Nat} {es : Array MapEntry} {clock : Nat} (w : World) (t : TypeId) (hb : w.heap[r]? = some (.map es clock)) :
    (Extern.MapsClone.clone #[.iface t (.map (some r))]).run P w = .ok (.iface t (.map (some w.heap.size))) (w.alloc (.map es clock)) := by
  have e : Extern.MapsClone.clone #[.iface t (.map (some r))] = (getObj r >>= fun o => match o with
      | .map entries clock => (newObj (.map entries clock) >>= fun n => pure (.iface t (.map (some n))))
      | _ => stuck "maps.clone: a map expected") := rfl
  rw [e]
  simp [MapKept.run_getObj_map hb, Result.andThen, go_sem]
theorem run_equalIn_nil {P : Program} (w : World) (d : Nat) (t k e : TypeId) (p : Option Nat) (h : P.underlying t = some (.map k e)) : (Op.equalIn (d + 1) t (.map p) (.map none)).run P w = .ok p.isNone w := by
  cases p <;> simp [Op.equalIn, run_underlying h]
theorem eql_mmap (w : World) (p : Option Nat) : (binOp .eql 167 (.map p) (.map none)).run Tryz.prog w = .ok (.bool p.isNone) w := by
  simp only [binOp]
  simp [show Op.equal 167 (.map p) (.map none) = Op.equalIn (9999 + 1) 167 (.map p) (.map none) from rfl, run_equalIn_nil w 9999 167 _ _ p Tryz.underlying167]
theorem eql_pieces (w : World) (p : Option Addr) (n c : Nat) : (binOp .eql 173 (.slice p n c) (.slice none 0 0)).run Tryz.prog w = .ok (.bool p.isNone) w := by
  simp only [binOp]
  simp [show Op.equal 173 (.slice p n c) (.slice none 0 0) = Op.equalIn (9999 + 1) 173 (.slice p n c) (.slice none 0 0) from rfl, run_equalIn_slice_nil w 9999 173 _ p n c Tryz.underlying173]
attribute [local go_sem] eql_mmap eql_pieces

/-- A row of blocks of the call's own is made. -/
def Made (w : World) (F : Heap) (w' : World) : Prop := Below w.heap.size w w' ∧ ∀ (W : World) (L : Heap), Own W w L → Own W w' (F ++ L)
theorem MapIs.cloned {W w : World} {b : Nat} {m : List (Value × Value)} {L : Heap} {es : Array MapEntry} {clock : Nat} (h : Own W w L) (_hb : w.heap[b]? = some (.map es clock)) (hm : es.toList.map (fun e => (e.key, e.val)) = m) (h1 : (es.toList.map (·.born)).Pairwise (· < ·)) (h2 : ∀ e ∈ es.toList, e.born < clock) : Own W (w.alloc (.map es clock)) ((w.heap.size, .map m) :: L) :=
  h.new _ ⟨es, clock, heap_alloc_new w _, hm, h1, h2⟩
/-! ### Marks -/
set_option maxRecDepth 100000 in
set_option maxHeartbeats 2000000 in
theorem clone_marks (mm : Nat) (es : Array MapEntry) (clock : Nat) (w : World) (hb : w.heap[mm]? = some (.map es clock)) :
    Calls Tryz.prog 128 #[.map (some mm)] w fun e w' => e = .returned (.map (some w.heap.size)) ∧ w' = w.alloc (.map es clock) := by
  go_enter Tryz.func128, Tryz.ntmps128
  go_wp2
  rw [run_callFunc_extern Tryz.func160 (by kernel_rfl) (by kernel_rfl) (by kernel_rfl) (e := Extern.MapsClone.clone) (by kernel_rfl), run_clone w 167 hb]
  simp only [Result.andThen]
  rw [Oper.upon_value]
  go_wp2
  rw [run_assert_map _ 167 _ _ _ _ Tryz.underlying167]
  simp only [Result.andThen]
  rw [Oper.upon_value]
  go_wp2
  go_ret
  exact ⟨rfl, rfl⟩
set_option maxRecDepth 100000 in
set_option maxHeartbeats 2000000 in
theorem mcopy_any (mk mm : Nat) (w : World) (h : Blk w mk 172 #[.map (some mm), .int .i64 0]) (hm : MapIs w mm []) : Calls Tryz.prog 85 #[.pointer (some ⟨mk, 0, none⟩)] w fun e w' =>
    ∃ k2 m2, e = .returned (.pointer (some ⟨k2, 0, none⟩)) ∧ Made w [(k2, .cells 172 #[.map (some m2), .int .i64 0]), (m2, .map [])] w' := by
  obtain ⟨es, clock, hb, he, h1, h2⟩ := hm.holds
  have hlt := h.lt
  have HK := hide (fun (y : World) (hb : Below w.heap.size w y) => (show y.cell? ⟨mk, 0, none⟩ = some (.map (some mm)) ∧ y.cell? ⟨mk, 1, none⟩ = some (.int .i64 0) from ⟨((h.below hb hlt).cell 0).trans rfl, ((h.below hb hlt).cell 1).trans rfl⟩))
  have HM := hide (mmade_any mk mm w (h.cell 0))
  have B0 := hide (show Below w.heap.size w w.drew from (Below.refl _ _).drew)
  have HC := hide (clone_marks mm es clock w.drew hb)
  have HF := hide (fun (W : World) (L : Heap) (ho : Own W w L) => (MapIs.cloned ho.drew (b := mm) (m := []) (es := es) (clock := clock) hb he h1 h2).newCells 172 #[.map (some w.heap.size), .int .i64 0])
  have HFb := hide (fun (W : World) (L : Heap) (ho : Own W w L) => ((MapIs.cloned ho (b := mm) (m := []) (es := es) (clock := clock) hb he h1 h2).newCells 172 #[.map (some w.heap.size), .int .i64 0]).drew)
  have HB := hide ((((Below.refl w.heap.size w).drew.alloc (Nat.le_refl _) (.map es clock))).alloc (by simp) (.cells #[.map (some w.heap.size), .int .i64 0] 172))
  have HBb := hide ((((Below.refl w.heap.size w).alloc (Nat.le_refl _) (.map es clock)).alloc (by simp) (.cells #[.map (some w.heap.size), .int .i64 0] 172)).drew)
  have HB1 := hide (((Below.refl w.heap.size w).drew.alloc (Nat.le_refl _) (.map es clock)))
  clear h hm hb he h1 h2 hlt
  obtain ⟨c0, c1⟩ := HK.out w (Below.refl _ _)
  go_enter Tryz.func85, Tryz.ntmps85
  go_wp2_with fail
  refine (Calls.mono HM.out) ?_
  rintro r w2 ⟨rfl, rfl⟩
  go_wp2_with fail
  go_region_held3 (fun y => y.cell? ⟨mk, 0, none⟩ = some (.map (some mm)) ∧ y.cell? ⟨mk, 1, none⟩ = some (.int .i64 0))
    (first | exact HK.out _ B0.out | exact HK.out _ HB1.out | exact HK.out _ HB.out)
    (first | (go_at_call 128; (with_reducible refine Calls.mono HC.out ?_); rintro r w3 ⟨rfl, rfl⟩))
  all_goals
    go_wp2
    go_ret
    first
      | exact ⟨_, _, rfl, HB.out, fun W L ho => by simpa using HF.out W L ho⟩
      | exact ⟨_, _, rfl, HBb.out, fun W L ho => by simpa using HFb.out W L ho⟩
/-! ### Properties -/
set_option maxRecDepth 100000 in
set_option maxHeartbeats 2000000 in
theorem clone_pieces (w : World) : Calls Tryz.prog 130 #[.slice none 0 0] w fun e w' => e = .returned (.slice none 0 0) ∧ w = w' := by
  go_enter Tryz.func130, Tryz.ntmps130
  go_wp2
  go_ret
  exact ⟨rfl, rfl⟩
set_option maxRecDepth 100000 in
set_option maxHeartbeats 2000000 in
theorem pcopy_any (pr : Nat) (w : World) (h : Blk w pr 181 prC) : Calls Tryz.prog 86 #[.pointer (some ⟨pr, 0, none⟩)] w fun e w' =>
    ∃ p2, e = .returned (.pointer (some ⟨p2, 0, none⟩)) ∧ Made w [(p2, .cells 181 prC)] w' := by
  have HN := hide (pnone_any pr w ((h.cell 1).trans rfl))
  have c0 : w.cell? ⟨pr, 0, none⟩ = some (.slice none 0 0) := (h.cell 0).trans rfl
  clear h
  go_enter Tryz.func86, Tryz.ntmps86
  go_wp2_with (first | (go_at_call 129; refine (Calls.mono HN.out) ?_; rintro r w2 ⟨rfl, rfl⟩) | (go_at_call 130; refine (Calls.mono (clone_pieces _)) ?_; rintro r w2 ⟨rfl, rfl⟩))
  go_ret
  exact ⟨_, rfl, (Below.refl _ _).alloc (Nat.le_refl _) _, fun W L ho => ho.newCells _ _⟩
/-! ### Overlays -/
set_option maxRecDepth 100000 in
set_option maxHeartbeats 2000000 in
theorem ocopy_any (ov : Nat) (p q : Int) (w : World) (h : Blk w ov 184 (ovC p q)) : Calls Tryz.prog 87 #[.pointer (some ⟨ov, 0, none⟩)] w fun e w' =>
    ∃ o2, e = .returned (.pointer (some ⟨o2, 0, none⟩)) ∧ Made w [(o2, .cells 184 (ovC p q))] w' := by
  have HN := hide (ovalid_any ov w ((h.cell 4).trans rfl))
  have hlt := h.lt
  have c0 : w.cell? ⟨ov, 0, none⟩ = some (.int .i64 p) := (h.cell 0).trans rfl
  have c1 : w.cell? ⟨ov, 1, none⟩ = some (.int .i64 q) := (h.cell 1).trans rfl
  have c2 : w.cell? ⟨ov, 2, none⟩ = some (.slice none 0 0) := (h.cell 2).trans rfl
  have c3 : w.cell? ⟨ov, 3, none⟩ = some (.int .i64 0) := (h.cell 3).trans rfl
  have c4 : w.cell? ⟨ov, 4, none⟩ = some (.bool true) := (h.cell 4).trans rfl
  have hne : ov ≠ w.heap.size := by omega
  have HF := hide (fun (W : World) (L : Heap) (ho : Own W w L) => ho.newCells 184 #[.int .i64 p, .int .i64 q, .slice none 0 0, .int .i64 0, .bool true])
  have HB := hide ((Below.refl w.heap.size w).alloc (Nat.le_refl _) (.cells #[.int .i64 p, .int .i64 q, .slice none 0 0, .int .i64 0, .bool true] 184))
  clear h
  go_enter Tryz.func87, Tryz.ntmps87
  go_wp2_with fail
  refine (Calls.mono HN.out) ?_
  rintro r w2 ⟨rfl, rfl⟩
  go_wp2
  obtain ⟨w3, hw3⟩ : ∃ y : World, y = w.alloc (.cells #[.int .i64 p, .int .i64 q, .slice none 0 0, .int .i64 0, .bool true] 184) := ⟨_, rfl⟩
  rw [← hw3] at HF HB ⊢
  clear hw3
  go_loopw [19] (fun i wr => i = .int .i64 0 ∧ wr = w3) (fun _ _ => 0)
  case atStart => exact ⟨rfl, rfl⟩
  case round =>
    obtain ⟨rfl, rfl⟩ := hrel
    go_wp2
    go_ret
    exact ⟨_, rfl, HB.out, HF.out⟩
end Go.Proofs.YtnbhejbpofjamaaGreatDoor
namespace Go.Proofs.YtnbhejbpofjamaaGreatDoor
open Go.RowKit

/-- What Copy leaves. -/
def CopyL (W w : World) (b : Lb) (s : Lg) (R : Heap) (e : Ending) (w' : World) : Prop :=
  ∃ b2 : Lb, e = .returned (.pointer (some ⟨b2.lb, 0, none⟩)) ∧ Own W w' (b.heap s ++ (b2.heap s ++ R)) ∧ b2.gs = [] ∧ RowOk b2.gv b2.gs.length ∧ RowOk b2.ov s.O.length ∧ Below w.heap.size w w'
section
variable {W w w' : World} {b : Lb} {s : Lg} {R : Heap}
set_option maxRecDepth 100000 in
set_option maxHeartbeats 4000000 in
theorem lcopy_any (h : LogAt W w b s R) (hl : 1 ≤ s.lim) (hG : b.gs = []) (hO : s.O.length ≤ 1000000) : Calls Tryz.prog 88 #[.pointer (some ⟨b.lb, 0, none⟩)] w (CopyL W w b s R) := by
  have HN := hide (lnone_any h hl)
  have hlb : b.lb < w.heap.size := h.blk.lt
  obtain ⟨A2, d2, hv2, _, _⟩ := h.slO.form
  obtain ⟨A1, d1, hv1, _, _⟩ := h.slG.form
  rw [hG] at hv1
  simp only [List.length_nil] at hv1
  obtain ⟨nO, hnO⟩ : ∃ nO, nO = s.O.length := ⟨_, rfl⟩
  rw [← hnO] at hv2
  have c0 := h.c0
  have c1 := h.c1
  have c2 := h.c2
  have c3 := h.c3
  have c4 := h.c4
  have c5 := h.c5
  rw [hv1] at c1
  rw [hv2] at c2
  have hbx := h.box 192 #[.int .i64 s.lim, .slice A1 0 d1, .slice A2 nO d2, .int .i64 s.ch, .int .i64 s.cost, .int .i64 s.now]
  have e1 := hbx.c1
  have e2 := hbx.c2
  rw [hv1] at e1
  rw [hv2] at e2
  have hrd := hbx.slO.rd
  rw [hv2] at hrd
  have HC := hide (cclone_any _ s.O _ hrd hO)
  have HX := hide hbx
  have HB0 := hide ((Below.refl w.heap.size w).alloc (Nat.le_refl _) (.cells #[.int .i64 s.lim, .slice A1 0 d1, .slice A2 nO d2, .int .i64 s.ch, .int .i64 s.cost, .int .i64 s.now] 192))
  have HV1 := hide hv1
  have HV2 := hide hv2
  have HNO := hide hnO
  clear h hbx hrd hv1 hv2 hnO hG hO
  go_enter Tryz.func88, Tryz.ntmps88
  go_wp2_with fail
  refine (Calls.mono HN.out) ?_
  rintro e w2 ⟨rfl, rfl⟩
  go_wp2_with fail
  refine (Calls.mono HC.out) ?_
  rintro e w5 ⟨v, rfl, hs5, hf5, hb5⟩
  have h5 := (HX.out.own.joinRow hb5 hs5 hf5).perm (R := (w.heap.size, .cells 192 #[.int .i64 s.lim, .slice A1 0 d1, .slice A2 nO d2, .int .i64 s.ch, .int .i64 s.cost, .int .i64 s.now]) :: (chgRow v s.O ++ (b.heap s ++ R))) (by
    classical
    rw [List.perm_iff_count]
    intro x
    simp only [chgRow, List.count_append, List.count_cons]
    omega)
  have hb6 := HB0.out.trans (hb5.mono HB0.out.size)
  have kb := h5.blk (List.mem_cons_self ..)
  have k1 := kb.cell 1
  have k2 := kb.cell 2
  have f1 := kb.frozen 1
  have f2 := kb.frozen 2
  have hbm : (b.lb, Ast.cells 192 (logCells b s)) ∈ ((w.heap.size, Ast.cells 192 #[.int .i64 s.lim, .slice A1 0 d1, .slice A2 nO d2, .int .i64 s.ch, .int .i64 s.cost, .int .i64 s.now]) :: (chgRow v s.O ++ (b.heap s ++ R))) := by simp [Lb.heap]
  have g1 : w5.cell? ⟨b.lb, 1, none⟩ = some (.slice A1 0 d1) := ((h5.blk hbm).cell 1).trans (by rw [← HV1.out]; rfl)
  have hbw : b.lb ≠ w.heap.size := by omega
  obtain ⟨Av, dv, rfl, _⟩ := id hs5.form
  obtain ⟨nv, hnv⟩ : ∃ nv, nv = s.O.length := ⟨_, rfl⟩
  have h6 := (h5.setCell 2 (.slice Av s.O.length dv)).setCell 1 (.slice none 0 0)
  have HOV := hide hs5.rowOk
  rw [← hnv] at h6 HOV ⊢
  have H6 := hide h6
  have HNV := hide hnv
  obtain ⟨ob, hob⟩ : ∃ ob, ob = w.heap.size := ⟨_, rfl⟩
  rw [← hob] at H6 k1 k2 f1 f2 hbw ⊢
  have HB6 := hide ((hb6.setCell (p := ⟨ob, 2, none⟩) (by rw [hob]; exact Nat.le_refl _) (.slice Av nv dv)).setCell (p := ⟨ob, 1, none⟩) (by rw [hob]; exact Nat.le_refl _) (.slice none 0 0))
  clear h5 kb hs5 hf5 hb5 h6 hnv HC HX hob hb6 hbm HB0
  go_wp2
  obtain ⟨w7, hw7⟩ : ∃ y : World, y = (w5.setCell ⟨ob, 2, none⟩ (.slice Av nv dv)).setCell ⟨ob, 1, none⟩ (.slice none 0 0) := ⟨_, rfl⟩
  rw [← hw7] at H6 HB6 ⊢
  clear hw7
  go_loopw [23] (fun i wr => i = .int .i64 0 ∧ wr = w7) (fun _ _ => 0)
  case atStart => exact ⟨rfl, rfl⟩
  case round =>
    obtain ⟨rfl, rfl⟩ := hrel
    go_wp2
    go_ret
    refine ⟨⟨ob, .slice none 0 0, .slice Av nv dv, []⟩, rfl, H6.out.perm ?_, rfl, RowOk.nil, by rw [← HNV.out]; exact HOV.out, HB6.out⟩
    unfold Lb.heap
    classical
    rw [List.perm_iff_count]
    intro x
    have e : ((#[.int .i64 s.lim, .slice A1 0 d1, .slice A2 nO d2, .int .i64 s.ch, .int .i64 s.cost, .int .i64 s.now] : Array Value).setIfInBounds 2 (.slice Av nv dv)).setIfInBounds 1 (.slice none 0 0) = logCells ⟨ob, .slice none 0 0, .slice Av nv dv, []⟩ s := rfl
    rw [e]
    simp only [List.count_append, List.count_cons, rowOf_nil, grpHeap, List.flatMap_nil, List.count_nil, List.map_nil, List.length_nil, chgRow]
    omega
end
end Go.Proofs.YtnbhejbpofjamaaGreatDoor
namespace Go.Proofs.YtnbhejbpofjamaaGreatDoor
open Go.RowKit

theorem lgS_G (t n : Nat) : (lgS t n).G = [] := by unfold lgS; split <;> rfl
theorem lgS_lim (t n : Nat) : 1 ≤ (lgS t n).lim := by
  unfold lgS
  split <;> (show (1 : Int) ≤ 1048576; decide)
theorem lgS_O (t n : Nat) : (lgS t n).O.length ≤ 1000000 := by
  unfold lgS
  split
  · show 0 ≤ _; omega
  · show 3 ≤ _; omega
section
variable {W w w' : World} {z : Zb} {s : Bz} {R X : Heap}
theorem ZOk.gs (k : ZOk z s) : z.lb.gs = [] := by
  have h := k.grp
  rw [lgS_G] at h
  exact List.map_eq_nil_iff.1 h.symm
theorem zcopyT (k : ZOk z s) (ho : Own W w (zHeap z s ++ X)) : Calls Tryz.prog 84 #[.pointer (some ⟨z.gb.tb, 0, none⟩)] w fun e w' => ∃ b2 : Gb, e = .returned (.pointer (some ⟨b2.tb, 0, none⟩)) ∧ Own W w' (zHeap z s ++ (b2.heap ++ X)) ∧ GOk b2 s.L ∧ Below w.heap.size w w' := by
  refine (gcopy_any (k.at_ ho).at_.text).mono ?_
  rintro e w' ⟨b2, rfl, h, hk, hb⟩
  refine ⟨b2, rfl, h.perm ?_, hk, hb⟩
  classical
  rw [List.perm_iff_count]
  intro x
  simp only [zHeap, List.count_append, List.count_cons]
  omega
theorem made_in {F A : Heap} (h : Made w F w') (ho : Own W w (A ++ X)) : Own W w' (A ++ (F ++ X)) := (h.2 W _ ho).perm (List.perm_append_comm_assoc _ _ _)
theorem zcopyM (k : ZOk z s) (ho : Own W w (zHeap z s ++ X)) : Calls Tryz.prog 85 #[.pointer (some ⟨z.mks, 0, none⟩)] w fun e w' => ∃ k2 m2, e = .returned (.pointer (some ⟨k2, 0, none⟩)) ∧ Own W w' (zHeap z s ++ ([(k2, .cells 172 #[.map (some m2), .int .i64 0]), (m2, .map [])] ++ X)) ∧ Below w.heap.size w w' := by
  refine (mcopy_any _ _ _ (k.at_ ho).at_.mk_ (k.at_ ho).at_.mm_).mono ?_
  rintro e w' ⟨k2, m2, rfl, h⟩
  exact ⟨k2, m2, rfl, made_in h ho, h.1⟩
theorem zcopyP (k : ZOk z s) (ho : Own W w (zHeap z s ++ X)) : Calls Tryz.prog 86 #[.pointer (some ⟨z.pr, 0, none⟩)] w fun e w' => ∃ p2, e = .returned (.pointer (some ⟨p2, 0, none⟩)) ∧ Own W w' (zHeap z s ++ ([(p2, .cells 181 prC)] ++ X)) ∧ Below w.heap.size w w' := by
  refine (pcopy_any _ _ (k.at_ ho).at_.pr_).mono ?_
  rintro e w' ⟨p2, rfl, h⟩
  exact ⟨p2, rfl, made_in h ho, h.1⟩
theorem zcopyO (k : ZOk z s) (ho : Own W w (zHeap z s ++ X)) : Calls Tryz.prog 87 #[.pointer (some ⟨z.ov, 0, none⟩)] w fun e w' => ∃ o2, e = .returned (.pointer (some ⟨o2, 0, none⟩)) ∧ Own W w' (zHeap z s ++ ([(o2, .cells 184 (ovC s.p s.q))] ++ X)) ∧ Below w.heap.size w w' := by
  refine (ocopy_any _ _ _ _ (k.at_ ho).at_.ov_).mono ?_
  rintro e w' ⟨o2, rfl, h⟩
  exact ⟨o2, rfl, made_in h ho, h.1⟩
theorem zcopyL (k : ZOk z s) (ho : Own W w (zHeap z s ++ X)) : Calls Tryz.prog 88 #[.pointer (some ⟨z.lb.lb, 0, none⟩)] w fun e w' => ∃ b2 : Lb, e = .returned (.pointer (some ⟨b2.lb, 0, none⟩)) ∧ Own W w' (zHeap z s ++ (b2.heap (lgS s.tick s.L.length) ++ X)) ∧ b2.gs = [] ∧ RowOk b2.gv b2.gs.length ∧ RowOk b2.ov (lgS s.tick s.L.length).O.length ∧ Below w.heap.size w w' := by
  refine (lcopy_any (k.at_ ho).at_.log (lgS_lim _ _) k.gs (lgS_O _ _)).mono ?_
  rintro e w' ⟨b2, rfl, h, h1, h2, h3, hb⟩
  refine ⟨b2, rfl, h.perm ?_, h1, h2, h3, hb⟩
  classical
  rw [List.perm_iff_count]
  intro x
  simp only [zHeap, List.count_append, List.count_cons]
  omega
end
end Go.Proofs.YtnbhejbpofjamaaGreatDoor
