/- The reference: Attrs, Full, Resolve. No condition but those written. -/
import Derived.Test.YtmjogpacajbngaaHg
namespace Go.Proofs.Ytmjogpacajbngaa
open Go.RowKit

/-- The reference lies in memory. -/
structure RfIn (w : World) (rb : Nat) (A B : Option Addr) (n c d : Nat) (L : Fm) : Prop where
  b : Blk w rb 43 #[.slice A n c, .slice B n d]
  r : Rd w (.slice A n c) 1 n (strs (L.map (·.1)))
  a : Rd w (.slice B n d) 6 n (rows Att.cells (L.map (·.2)))
  l : L.length = n
theorem RfIn.below {w w' : World} {rb : Nat} {A B : Option Addr} {n c d : Nat} {L : Fm} (h : RfIn w rb A B n c d L) (hb : Below w.heap.size w w') : RfIn w' rb A B n c d L := ⟨h.b.below hb h.b.lt, h.r.belowF hb, h.a.belowF hb, h.l⟩
theorem RfAt.rfIn {W w : World} {rb : Nat} {vN vA : Value} {L : Fm} {R : Heap} (h : RfAt W w rb vN (L.map (·.1)) vA (L.map (·.2)) R) : ∃ A B c d, vN = .slice A L.length c ∧ vA = .slice B L.length d ∧ RfIn w rb A B L.length c d L := by
  obtain ⟨A, c, rfl, _⟩ := h.slN.form
  obtain ⟨B, d, rfl, _⟩ := h.slA.form
  have h1 := h.blk
  have h2 := h.slN.rd
  have h3 := h.slA.rd
  rw [List.length_map] at h2 h3
  rw [List.length_map, List.length_map] at h1
  exact ⟨A, B, c, d, by rw [List.length_map], by rw [List.length_map], h1, h2, h3, rfl⟩
set_option maxRecDepth 100000 in
set_option maxRecDepth 100000 in
set_option maxHeartbeats 8000000 in
theorem rattrs_any {w : World} {rb : Nat} {A B : Option Addr} {n c d : Nat} {L : Fm} (h : RfIn w rb A B n c d L) (hn : n ≤ 256) (s : ByteArray) : Calls Try.prog 51 #[.pointer (some ⟨rb, 0, none⟩), .string s] w fun e w' => e = .returned (.tuple #[(lookZ L s).val, .bool (look L s).isSome]) ∧ Below w.heap.size w w' := by
  have hB1 : Below w.heap.size w (w.alloc (.cells attZ 23)) := (Below.refl _ w).alloc (Nat.le_refl _) _
  have h1 := h.below hB1
  have HP := hide (place_any h1.b h1.r s (by omega))
  have H1 := hide h1
  clear h
  rcases plc_look L s with ⟨i, a, e1, e2, e3⟩ | ⟨e1, e2⟩
  · rw [plcZ_some e1] at HP
    rw [lookZ_of e3, e3]
    have hil : i < n := by
      have := (List.getElem?_eq_some_iff.1 e2).1
      have := h1.l
      omega
    obtain ⟨g, off, rfl, p0, p1, p2, p3, p4, p5⟩ := rd_att h1.a (i := i) (a := a) (by rw [List.getElem?_map, e2]; rfl)
    have c1 : (w.alloc (.cells attZ 23)).cell? ⟨rb, 1, none⟩ = some (.slice (some ⟨g, off, none⟩) n d) := by rw [h1.b.cell]; rfl
    have y1 : decide (i < n) = true := by simpa using hil
    have y2 : decide ((i : Int) < (n : Int)) = true := decide_eq_true (by omega)
    have y3 : decide ((i : Int) < 0) = false := decide_eq_false (by omega)
    have HBL := hide (show Below w.heap.size w (w.alloc (.cells a.cells.toArray 23)) from (Below.refl _ w).alloc (Nat.le_refl _) _)
    have HR := hide (Blk.new w 23 a.cells.toArray)
    have HLD := hide (run_loadVar_row (P := Try.prog) _ w.heap.size 23 23 a.cells.toArray (0, 0) _ HR.out Try.underlying23 rfl (by kernel_rfl))
    clear h1 hB1 e1 e2 e3
    go_enter Try.func51, Try.ntmps51
    go_wp2_with fail
    refine Calls.mono HP.out ?_
    rintro r w2 ⟨rfl, rfl⟩
    go_wp2
    refine bodyPost_ret (results_row2 rfl rfl HLD.out rfl) rfl ?_
    exact ⟨rfl, HBL.out⟩
  · rw [plcZ_none e1] at HP
    have e3 : lookZ L s = attZero := by
      unfold lookZ
      rw [e2]
      rfl
    rw [e3, e2]
    have HBL := hide hB1
    have HR := hide (Blk.new w 23 attZero.cells.toArray)
    have HLD := hide (run_loadVar_row (P := Try.prog) _ w.heap.size 23 23 attZero.cells.toArray (0, 0) _ HR.out Try.underlying23 rfl (by kernel_rfl))
    clear h1 hB1 e1 e2 e3
    go_enter Try.func51, Try.ntmps51
    go_wp2_with fail
    refine Calls.mono HP.out ?_
    rintro r w2 ⟨rfl, rfl⟩
    go_wp2
    refine bodyPost_ret (results_row2 rfl rfl HLD.out rfl) rfl ?_
    exact ⟨rfl, HBL.out⟩
abbrev rfH (w : World) (a : Att) : Heap := [(w.heap.size, .cells 23 attZ), (w.heap.size + 1, .cells 23 a.cells.toArray)]
theorem rf_six {w wr : World} {b : Att} (h : Own w wr (rfH w b)) (a : Att) : Own w ((((((wr.setCell ⟨w.heap.size + 1, 0, none⟩ (.int .i64 a.fo)).setCell ⟨w.heap.size + 1, 1, none⟩ (.int .i64 a.ba)).setCell ⟨w.heap.size + 1, 2, none⟩ (.int .i64 a.bo)).setCell ⟨w.heap.size + 1, 3, none⟩ (.int .i64 a.un)).setCell ⟨w.heap.size + 1, 4, none⟩ (.int .i64 a.iv)).setCell ⟨w.heap.size + 1, 5, none⟩ (.string a.inh)) (rfH w a) := by
  have h1 := h.perm (List.Perm.swap _ _ _)
  exact (h1.turn (six_only wr (w.heap.size + 1) a) (b := .cells 23 a.cells.toArray) (six_blk (h1.blk (List.mem_cons_self ..)) a)).perm (List.Perm.swap _ _ _)
theorem rf_six0 {w wr : World} {b : Att} (h : Own w wr (rfH w b)) (a : Att) : Own w ((((((wr.setCell ⟨w.heap.size, 0, none⟩ (.int .i64 a.fo)).setCell ⟨w.heap.size, 1, none⟩ (.int .i64 a.ba)).setCell ⟨w.heap.size, 2, none⟩ (.int .i64 a.bo)).setCell ⟨w.heap.size, 3, none⟩ (.int .i64 a.un)).setCell ⟨w.heap.size, 4, none⟩ (.int .i64 a.iv)).setCell ⟨w.heap.size, 5, none⟩ (.string a.inh)) [(w.heap.size, .cells 23 a.cells.toArray), (w.heap.size + 1, .cells 23 b.cells.toArray)] :=
  h.turn (six_only wr w.heap.size a) (b := .cells 23 a.cells.toArray) (six_blk (b := attZero) (h.blk (List.mem_cons_self ..)) a)
theorem rf_start (w : World) : Own w ((w.alloc (.cells attZ 23)).alloc (.cells attZ 23)) (rfH w attZero) := by
  have := ((Own.refl w).newCells 23 attZ).newCells 23 attZ
  rw [World.size_alloc] at this
  exact this.perm (List.Perm.swap _ _ _)
/-- How many names are left, from an index. -/
noncomputable def leftF (L : Fm) (v : Value) : Nat := match v with
  | .int _ z => if z < 0 then 0 else (chainOf L ((L.map (·.1)).getD z.toNat ⟨#[]⟩)).length
  | _ => 0
theorem leftF_neg (L : Fm) : leftF L (.int .i64 (-1)) = 0 := by
  unfold leftF
  exact if_pos (by decide)
theorem leftF_at {L : Fm} {i : Nat} {y : ByteArray} {a : Att} {ys : List ByteArray} (h : L[i]? = some (y, a)) (hc : Chain L y ys) : leftF L (.int .i64 (i : Int)) = ys.length := by
  show (if (i : Int) < 0 then 0 else _) = _
  rw [if_neg (by omega), Int.toNat_natCast, List.getD_eq_getElem?_getD, List.getElem?_map, h]
  show (chainOf L y).length = _
  rw [chainOf_eq hc]
set_option maxRecDepth 100000 in
set_option maxRecDepth 100000 in
set_option maxHeartbeats 16000000 in
theorem rfull_any {w : World} {rb : Nat} {A B : Option Addr} {n c d : Nat} {L : Fm} (h : RfIn w rb A B n c d L) (hn : n ≤ 256) (hG : GoodF L) (s : ByteArray) : Calls Try.prog 52 #[.pointer (some ⟨rb, 0, none⟩), .string s] w fun e w' => e = .returned (.tuple #[(fullA L s).val, .int .i64 (fullE L s)]) ∧ Below w.heap.size w w' := by
  have HIN := hide (fun (w' : World) (hb : Below w.heap.size w w') => h.below hb)
  have HP := hide (fun (w' : World) (hb : Below w.heap.size w w') (y : ByteArray) => place_any (h.below hb).b (h.below hb).r y (by omega))
  have hB1 : Below w.heap.size w (w.alloc (.cells attZ 23)) := (Below.refl _ w).alloc (Nat.le_refl _) _
  have HB1 := hide hB1
  have HL := hide h.l
  have HS := hide (rf_start w)
  have HG := hide hG
  have HP0 := hide (HP.out _ hB1 s)
  clear h hB1 hG
  rcases plc_look L s with ⟨i0, a0, e1, e2, e3⟩ | ⟨e1, e2⟩
  · rw [plcZ_some e1] at HP0
    obtain ⟨xs, hx⟩ := HG.out.ch s (by rw [e3]; rfl)
    have HFA := hide (show fullA L s = fullOf L xs from full_at hx (by rw [e3]; rfl))
    have HFE := hide (show fullE L s = 0 by unfold fullE; rw [if_pos (by rw [e3]; rfl)])
    have HX := hide hx
    have HI0 := hide e2
    have y3 : decide ((i0 : Int) < 0) = false := decide_eq_false (by omega)
    have HL0 := hide e3
    have hsne : s ≠ ⟨#[]⟩ := validF_ne (HG.out.ok _ (look_in e3))
    clear e1 e2 e3 hx
    go_enter Try.func52, Try.ntmps52
    go_wp2_with fail
    refine Calls.mono HP0.out ?_
    rintro r w2 ⟨rfl, rfl⟩
    go_wp2_with fail
    go_loopw [6, 8] (fun t _ wr => ∃ (pre ys : List ByteArray), xs = pre ++ ys ∧ Own w wr (rfH w (fullOf L pre)) ∧ ((ys = [] ∧ t = .int .i64 (-1)) ∨ ∃ (i : Nat) (y : ByteArray) (a : Att), t = .int .i64 (i : Int) ∧ L[i]? = some (y, a) ∧ look L y = some a ∧ y ≠ ⟨#[]⟩ ∧ Chain L y ys)) (fun t _ _ => leftF L t)
    case atStart => exact ⟨[], xs, rfl, HS.out, .inr ⟨i0, s, a0, rfl, HI0.out, HL0.out, hsne, HX.out⟩⟩
    case round =>
      obtain ⟨pre, ys, hxs, hI, hh⟩ := hrel
      have HI := hide hI
      have HXS := hide hxs
      clear hI hxs
      rcases hh with ⟨rfl, rfl⟩ | ⟨i, y, a, rfl, hix, hly, hyne, hch⟩
      · have HE := hide (show xs = pre by rw [HXS.out, List.append_nil])
        obtain ⟨F, hF⟩ : ∃ F, F = fullOf L pre := ⟨_, rfl⟩
        rw [← hF] at HI
        have HF := hide (show fullA L s = F by rw [HFA.out, HE.out, hF])
        obtain ⟨b0, b1, b2, b3, b4, b5⟩ := Blk.att (a := F) (HI.out.blk (g := w.heap.size + 1) (t := 23) (by simp))
        obtain ⟨o0, o1, o2, o3, o4, o5⟩ := Blk.att (a := attZero) (HI.out.blk (g := w.heap.size) (t := 23) (by simp [Att.cells]))
        have fz : ∀ j, wr.frozen? ⟨w.heap.size, j, none⟩ = false := Blk.frozen (HI.out.blk (t := 23) (cs := attZ) (by simp))
        have f0 := fz 0
        have f1 := fz 1
        have f2 := fz 2
        have f3 := fz 3
        have f4 := fz 4
        have f5 := fz 5
        have HO := hide (rf_six0 HI.out F)
        have HLD := hide (run_loadVar_row (P := Try.prog) _ w.heap.size 23 23 F.cells.toArray (0, 0) _ (HO.out.blk (List.mem_cons_self ..)) Try.underlying23 rfl (by kernel_rfl))
        clear fz hF
        go_wp2
        refine bodyPost_ret (results_row2 rfl rfl HLD.out rfl) rfl ?_
        exact ⟨by rw [HF.out, HFE.out]; rfl, HO.out.bel⟩
      · cases hch with
        | nil => exact absurd rfl hyne
        | @cons _ zs _ hz =>
          rw [lookZ_of hly] at hz
          have HZ := hide hz
          have HIX := hide hix
          have HME := hide (leftF_at hix (.cons hyne (by rw [lookZ_of hly]; exact hz)))
          obtain ⟨F, hF⟩ : ∃ F, F = fullOf L pre := ⟨_, rfl⟩
          rw [← hF] at HI
          have HOV := hide (show fullOf L (pre ++ [y]) = over F a by rw [fullOf_snoc, lookZ_of hly, hF])
          have hil : i < n := by
            have := (List.getElem?_eq_some_iff.1 hix).1
            have := HL.out
            omega
          have hin := HIN.out wr HI.out.bel
          obtain ⟨g, off, rfl, p0, p1, p2, p3, p4, p5⟩ := rd_att hin.a (i := i) (a := a) (by rw [List.getElem?_map, hix]; rfl)
          have c1 : wr.cell? ⟨rb, 1, none⟩ = some (.slice (some ⟨g, off, none⟩) n d) := by rw [hin.b.cell]; rfl
          have y1 : decide (i < n) = true := by simpa using hil
          have y2 : decide ((i : Int) < (n : Int)) = true := decide_eq_true (by omega)
          have y4 : decide ((0 : Int) ≤ (i : Int)) = true := decide_eq_true (by omega)
          have y5 : (0 : Int) ≤ (i : Int) := by omega
          have y6 : (i : Int) < (n : Int) := by omega
          have HUP := hide (HG.out.up _ (look_in hly))
          clear hin hix hly hyne hz hF
          go_wp2_with fail
          refine wp_region_d (S := fun w' => w'.cell? ⟨rb, 1, none⟩ = some (.slice (some ⟨g, off, none⟩) n d) ∧ w'.cell? ⟨w.heap.size + 1, 0, none⟩ = some (.int .i64 F.fo) ∧ w'.cell? ⟨w.heap.size + 1, 1, none⟩ = some (.int .i64 F.ba) ∧ w'.cell? ⟨w.heap.size + 1, 2, none⟩ = some (.int .i64 F.bo) ∧ w'.cell? ⟨w.heap.size + 1, 3, none⟩ = some (.int .i64 F.un) ∧ w'.cell? ⟨w.heap.size + 1, 4, none⟩ = some (.int .i64 F.iv) ∧ w'.cell? ⟨w.heap.size + 1, 5, none⟩ = some (.string F.inh) ∧ w'.cell? ⟨g, off + i * 6, none⟩ = some (.int .i64 a.fo) ∧ w'.cell? ⟨g, off + i * 6 + 1, none⟩ = some (.int .i64 a.ba) ∧ w'.cell? ⟨g, off + i * 6 + 2, none⟩ = some (.int .i64 a.bo) ∧ w'.cell? ⟨g, off + i * 6 + 3, none⟩ = some (.int .i64 a.un) ∧ w'.cell? ⟨g, off + i * 6 + 4, none⟩ = some (.int .i64 a.iv) ∧ w'.cell? ⟨g, off + i * 6 + 5, none⟩ = some (.string a.inh)) (D := [9]) (by kernel_rfl) ?_
          change wpAnyD _ _ _ _ _ _ _ _ _ wr.drew
          have B0 := hide (HI.out.below (Below.refl _ _).drew)
          generalize wr.drew = w0 at B0 ⊢
          have HQ := hide (show ∀ w', Own w w' (rfH w F) → w'.cell? ⟨rb, 1, none⟩ = some (.slice (some ⟨g, off, none⟩) n d) ∧ w'.cell? ⟨w.heap.size + 1, 0, none⟩ = some (.int .i64 F.fo) ∧ w'.cell? ⟨w.heap.size + 1, 1, none⟩ = some (.int .i64 F.ba) ∧ w'.cell? ⟨w.heap.size + 1, 2, none⟩ = some (.int .i64 F.bo) ∧ w'.cell? ⟨w.heap.size + 1, 3, none⟩ = some (.int .i64 F.un) ∧ w'.cell? ⟨w.heap.size + 1, 4, none⟩ = some (.int .i64 F.iv) ∧ w'.cell? ⟨w.heap.size + 1, 5, none⟩ = some (.string F.inh) ∧ w'.cell? ⟨g, off + i * 6, none⟩ = some (.int .i64 a.fo) ∧ w'.cell? ⟨g, off + i * 6 + 1, none⟩ = some (.int .i64 a.ba) ∧ w'.cell? ⟨g, off + i * 6 + 2, none⟩ = some (.int .i64 a.bo) ∧ w'.cell? ⟨g, off + i * 6 + 3, none⟩ = some (.int .i64 a.un) ∧ w'.cell? ⟨g, off + i * 6 + 4, none⟩ = some (.int .i64 a.iv) ∧ w'.cell? ⟨g, off + i * 6 + 5, none⟩ = some (.string a.inh) from fun w' hb => by
            have hin := HIN.out w' hb.bel
            obtain ⟨b0, b1, b2, b3, b4, b5⟩ := Blk.att (a := F) (hb.blk (g := w.heap.size + 1) (t := 23) (by simp))
            obtain ⟨g', off', e, p0, p1, p2, p3, p4, p5⟩ := rd_att hin.a (i := i) (a := a) (by rw [List.getElem?_map, HIX.out]; rfl)
            injection e with e
            injection e with e3 e4
            subst e3 e4
            exact ⟨by rw [hin.b.cell]; rfl, b0, b1, b2, b3, b4, b5, p0, p1, p2, p3, p4, p5⟩)
          have hS := HQ.out _ B0.out
          refine wpAnyD_take (i := 0) (oi := { dst := some 25, op := Op.load 23 (Operand.tmp 7), type := 23, pos := "ref.go:148", after := #[], guard := none }) (v := ?_) rfl (by kernel_rfl) (by kernel_rfl) (by kernel_rfl) (by kernel_rfl) (by kernel_rfl) (fun _ _ _ h => h) (Or.inl ⟨by rfl, ?_⟩) hS ?_
          rotate_left
          · intro w hSw
            (try dsimp only at hSw)
            (try go_split_ands)
            go_simp
            all_goals with_reducible rfl
          simp only [Act.put, List.setIfInBounds_toArray, List.set_cons_zero, List.set_cons_succ]
          refine wpAnyD_takeW (i := 1) (oi := { dst := some 26, op := Op.move (Operand.tmp 0), type := 32, pos := "ref.go:148", after := #[], guard := none }) (v := ?_) rfl (by kernel_rfl) (by kernel_rfl) (by kernel_rfl) (fun _ _ _ h => h) (Or.inl ⟨by rfl, ?_⟩) ?_
          rotate_left
          · intro w hSw
            clear hSw
            go_simp
            all_goals with_reducible rfl
          simp only [Act.put, List.setIfInBounds_toArray, List.set_cons_zero, List.set_cons_succ]
          refine wpAnyD_takeW (i := 2) (oi := { dst := some 27, op := Op.nilCheck (Operand.tmp 26), type := 0, pos := "ref.go:148", after := #[{ on := 1, ground := Ground.data }], guard := none }) (v := ?_) rfl (by kernel_rfl) (by kernel_rfl) (by kernel_rfl) (fun _ _ _ h => h) (Or.inl ⟨by rfl, ?_⟩) ?_
          rotate_left
          · intro w hSw
            clear hSw
            go_simp
            all_goals with_reducible rfl
          simp only [Act.put, List.setIfInBounds_toArray, List.set_cons_zero, List.set_cons_succ]
          refine wpAnyD_takeW (i := 3) (oi := { dst := some 28, op := Op.fieldAddr 43 (Operand.tmp 27) 1, type := 0, pos := "ref.go:148", after := #[{ on := 2, ground := Ground.data }], guard := none }) (v := ?_) rfl (by kernel_rfl) (by kernel_rfl) (by kernel_rfl) (fun _ _ _ h => h) (Or.inl ⟨by rfl, ?_⟩) ?_
          rotate_left
          · intro w hSw
            clear hSw
            go_simp
            all_goals with_reducible rfl
          simp only [Act.put, List.setIfInBounds_toArray, List.set_cons_zero, List.set_cons_succ]
          refine wpAnyD_take (i := 4) (oi := { dst := some 29, op := Op.load 41 (Operand.tmp 28), type := 41, pos := "ref.go:148", after := #[{ on := 3, ground := Ground.data }], guard := none }) (v := ?_) rfl (by kernel_rfl) (by kernel_rfl) (by kernel_rfl) (by kernel_rfl) (by kernel_rfl) (fun _ _ _ h => h) (Or.inl ⟨by rfl, ?_⟩) hS ?_
          rotate_left
          · intro w hSw
            (try dsimp only at hSw)
            (try go_split_ands)
            go_simp
            all_goals with_reducible rfl
          simp only [Act.put, List.setIfInBounds_toArray, List.set_cons_zero, List.set_cons_succ]
          refine wpAnyD_takeW (i := 5) (oi := { dst := some 30, op := Op.move (Operand.tmp 6), type := 3, pos := "ref.go:148", after := #[], guard := none }) (v := ?_) rfl (by kernel_rfl) (by kernel_rfl) (by kernel_rfl) (fun _ _ _ h => h) (Or.inl ⟨by rfl, ?_⟩) ?_
          rotate_left
          · intro w hSw
            clear hSw
            go_simp
            all_goals with_reducible rfl
          simp only [Act.put, List.setIfInBounds_toArray, List.set_cons_zero, List.set_cons_succ]
          refine wpAnyD_takeW (i := 6) (oi := { dst := some 31, op := Op.indexAddr 41 (Operand.tmp 29) (Operand.tmp 30), type := 0, pos := "ref.go:148", after := #[{ on := 4, ground := Ground.data }, { on := 5, ground := Ground.data }], guard := none }) (v := ?_) rfl (by kernel_rfl) (by kernel_rfl) (by kernel_rfl) (fun _ _ _ h => h) (Or.inl ⟨by rfl, ?_⟩) ?_
          rotate_left
          · intro w hSw
            clear hSw
            go_simp
            all_goals with_reducible rfl
          simp only [Act.put, List.setIfInBounds_toArray, List.set_cons_zero, List.set_cons_succ]
          refine wpAnyD_take (i := 7) (oi := { dst := some 32, op := Op.load 23 (Operand.tmp 31), type := 23, pos := "ref.go:148", after := #[{ on := 6, ground := Ground.data }], guard := none }) (v := ?_) rfl (by kernel_rfl) (by kernel_rfl) (by kernel_rfl) (by kernel_rfl) (by kernel_rfl) (fun _ _ _ h => h) (Or.inl ⟨by rfl, ?_⟩) hS ?_
          rotate_left
          · intro w hSw
            (try dsimp only at hSw)
            (try go_split_ands)
            go_simp
            all_goals with_reducible rfl
          simp only [Act.put, List.setIfInBounds_toArray, List.set_cons_zero, List.set_cons_succ]
          clear hS
          refine wpAnyD_one (i := 8) (o := { dst := some 33, op := Op.call { callee := Callee.value (Operand.func 12), args := #[Operand.tmp 25, Operand.tmp 32], argTypes := #[23, 23] }, type := 23, pos := "ref.go:148", after := #[{ on := 0, ground := Ground.data }, { on := 7, ground := Ground.data }], guard := none }) (by kernel_rfl) rfl (fun K hK => ?_)
          go_simp
          go_at_call 12
          refine Calls.mono (rover_any F a _) ?_
          rintro r w5 ⟨rfl, hb⟩
          have B1 := hide (B0.out.below hb)
          clear hb
          refine hK _ _ (fun _ _ => HQ.out _ B1.out) ?_
          clear hK K
          try simp only [Act.put, List.setIfInBounds_toArray, List.set_cons_zero, List.set_cons_succ]
          obtain ⟨b0, b1, b2, b3, b4, b5⟩ := Blk.att (a := F) (B1.out.blk (g := w.heap.size + 1) (t := 23) (by simp))
          have fz : ∀ j, w5.frozen? ⟨w.heap.size + 1, j, none⟩ = false := Blk.frozen (B1.out.blk (t := 23) (cs := F.cells.toArray) (by simp))
          have f0 := fz 0
          have f1 := fz 1
          have f2 := fz 2
          have f3 := fz 3
          have f4 := fz 4
          have f5 := fz 5
          refine wpAnyD_one (i := 9) (o := { dst := none, op := Op.store 23 (Operand.tmp 7) (Operand.tmp 33), type := 0, pos := "ref.go:148", after := #[{ on := 8, ground := Ground.data }, { on := 8, ground := Ground.chain }, { on := 0, ground := Ground.phase }, { on := 1, ground := Ground.phase }, { on := 2, ground := Ground.phase }, { on := 3, ground := Ground.phase }, { on := 4, ground := Ground.phase }, { on := 5, ground := Ground.phase }, { on := 6, ground := Ground.phase }, { on := 7, ground := Ground.phase }, { on := 8, ground := Ground.phase }], guard := none }) (by kernel_rfl) rfl (fun K hK => ?_)
          go_simp
          refine hK _ _ (fun h => by cases h) ?_
          clear hK K
          try simp only [Act.put, List.setIfInBounds_toArray, List.set_cons_zero, List.set_cons_succ]
          refine wpAnyD_done (by kernel_rfl) ?_ _
          have H6 := hide (rf_six B1.out (over F a))
          clear b0 b1 b2 b3 b4 b5 fz f0 f1 f2 f3 f4 f5
          have hb6 := H6.out.bel
          by_cases hi : a.inh = ⟨#[]⟩
          · have z1 := empty_is hi
            have z3 : (a.inh.toList == []) = true := by
              cases hl : a.inh.toList with
              | nil => rfl
              | cons _ _ => rw [hl] at z1; cases z1
            have HNil := hide (show zs = [] by
              have hz := HZ.out
              rw [hi] at hz
              cases hz with
              | nil => rfl
              | cons h _ => exact absurd rfl h)
            clear hi hb6
            go_wp2
            go_roundw
            case rel => exact ⟨pre ++ [y], [], by rw [HXS.out, HNil.out]; simp, by rw [HOV.out]; exact H6.out, .inl ⟨rfl, rfl⟩⟩
            case measure => rw [HME.out, leftF_neg]; exact Nat.succ_pos _
          · have z1 := ne_empty hi
            have z3 : (a.inh.toList == []) = false := by
              cases hl : a.inh.toList with
              | nil => rw [hl] at z1; cases z1
              | cons _ _ => rfl
            have HNE := hide hi
            have HPI := hide (HP.out _ hb6 a.inh)
            clear hi hb6
            go_wp2_with fail
            refine Calls.mono HPI.out ?_
            rintro r w7 ⟨rfl, rfl⟩
            rcases plc_look L a.inh with ⟨j, b, e1, e2, e3⟩ | ⟨e1, e2⟩
            · rw [plcZ_some e1]
              go_wp2
              go_roundw
              case rel => exact ⟨pre ++ [y], zs, by rw [HXS.out]; simp, by rw [HOV.out]; exact H6.out, .inr ⟨j, a.inh, b, rfl, e2, e3, HNE.out, HZ.out⟩⟩
              case measure => rw [HME.out, leftF_at e2 HZ.out]; exact Nat.lt_succ_self _
            · exfalso
              rcases HUP.out with h | ⟨_, h⟩
              · exact HNE.out h
              · rw [show look L a.inh = none from e2] at h
                cases h
  · rw [plcZ_none e1] at HP0
    have HFA := hide (show fullA L s = attZero from fullA_no (by rw [e2]; rfl))
    have HFE := hide (show fullE L s = 8 by unfold fullE; rw [if_neg (by rw [e2]; decide)])
    have HR := hide (Blk.new w 23 attZero.cells.toArray)
    have HLD := hide (run_loadVar_row (P := Try.prog) _ w.heap.size 23 23 attZero.cells.toArray (0, 0) _ HR.out Try.underlying23 rfl (by kernel_rfl))
    rw [HFA.out, HFE.out]
    clear e1 e2
    go_enter Try.func52, Try.ntmps52
    go_wp2_with fail
    refine Calls.mono HP0.out ?_
    rintro r w2 ⟨rfl, rfl⟩
    go_wp2
    refine bodyPost_ret (results_row2 rfl rfl HLD.out rfl) rfl ?_
    exact ⟨rfl, HB1.out⟩
end Go.Proofs.Ytmjogpacajbngaa
