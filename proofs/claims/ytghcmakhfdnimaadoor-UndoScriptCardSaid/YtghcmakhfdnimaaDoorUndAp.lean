/- UndoApart returns true for every list of acts and every act. No condition but those written. -/
import Derived.Test.YtghcmakhfdnimaaDoorUndS
namespace Go.Proofs.YtghcmakhfdnimaaDoor
open Go.RowKit
attribute [local go_sem 2000] neq_chg

abbrev Acn.arr (a : Acn) : Array Value := #[.int .i64 a.kd, .int .i64 a.c.k, .int .i64 a.c.a, .int .i64 a.c.t, .int .i64 a.c.id, .int .i64 a.c.nm, .string a.c.tx, .int .i64 a.c.vk, .int .i64 a.c.vn, .bool a.c.had, .bool a.ag]
/-- An act in a block of its own. -/
structure AtB (w : World) (g : Nat) (a : Acn) : Prop where
  p0 : w.cell? ⟨g, 0, none⟩ = some (.int .i64 a.kd)
  p1 : w.cell? ⟨g, 1, none⟩ = some (.int .i64 a.c.k)
  p2 : w.cell? ⟨g, 2, none⟩ = some (.int .i64 a.c.a)
  p3 : w.cell? ⟨g, 3, none⟩ = some (.int .i64 a.c.t)
  p4 : w.cell? ⟨g, 4, none⟩ = some (.int .i64 a.c.id)
  p5 : w.cell? ⟨g, 5, none⟩ = some (.int .i64 a.c.nm)
  p6 : w.cell? ⟨g, 6, none⟩ = some (.string a.c.tx)
  p7 : w.cell? ⟨g, 7, none⟩ = some (.int .i64 a.c.vk)
  p8 : w.cell? ⟨g, 8, none⟩ = some (.int .i64 a.c.vn)
  p9 : w.cell? ⟨g, 9, none⟩ = some (.bool a.c.had)
  p10 : w.cell? ⟨g, 10, none⟩ = some (.bool a.ag)
abbrev actBox (g : Nat) (a : Acn) : Nat × Ast := (g, .cells 53 a.arr)
theorem Own.atB {W w : World} {L : Heap} {g : Nat} {a : Acn} (h : Own W w L) (hm : actBox g a ∈ L) : AtB w g a := by
  have b := h.blk hm
  exact ⟨b.cell 0, b.cell 1, b.cell 2, b.cell 3, b.cell 4, b.cell 5, b.cell 6, b.cell 7, b.cell 8, b.cell 9, b.cell 10⟩
set_option maxRecDepth 100000 in
set_option maxHeartbeats 2000000 in
theorem do_nil (a : Acn) (w : World) : Calls Tryd.prog 33 #[.pointer none, a.val] w fun e w' => e = .returned (.tuple #[.slice none 0 0, .int .i64 1]) ∧ Below w.heap.size w w' := by
  have HB := hide ((Below.refl w.heap.size w).alloc (Nat.le_refl _) (.cells #[.int .i64 a.kd, .int .i64 a.c.k, .int .i64 a.c.a, .int .i64 a.c.t, .int .i64 a.c.id, .int .i64 a.c.nm, .string a.c.tx, .int .i64 a.c.vk, .int .i64 a.c.vn, .bool a.c.had, .bool a.ag] 53))
  have hP := pick_any a.kd 8 (w.alloc (.cells #[.int .i64 a.kd, .int .i64 a.c.k, .int .i64 a.c.a, .int .i64 a.c.t, .int .i64 a.c.id, .int .i64 a.c.nm, .string a.c.tx, .int .i64 a.c.vk, .int .i64 a.c.vn, .bool a.c.had, .bool a.ag] 53)) (by omega) (by omega)
  have h0 : 0 ≤ a.pk := pickZ_ge (by omega)
  have h8 : a.pk < 8 := pickZ_lt (by omega)
  have hc : (a.pk = 0 ∨ a.pk = 1 ∨ a.pk = 2 ∨ a.pk = 3) ∨ a.pk = 4 ∨ a.pk = 5 ∨ a.pk = 6 ∨ a.pk = 7 := by omega
  unfold Acn.pk at hc
  clear h0 h8
  rcases hc with (e | e | e | e) | e | e | e | e
  all_goals
    rw [e] at hP
    have HP := hide hP
    clear hP e
    go_enter Tryd.func33, Tryd.ntmps33
    go_wp2_with fail
    refine (Calls.mono HP.out) ?_
    rintro e w2 ⟨rfl, rfl⟩
    go_wp2_with fail
  iterate 4
    · refine (add_nil a.c _).mono ?_
      rintro e w3 ⟨rfl, hb⟩
      have HB3 := hide (HB.out.trans (hb.mono (Below.refl _ _ |>.alloc (Nat.le_refl _) _).size))
      go_wp2
      go_ret2
      exact ⟨rfl, HB3.out⟩
  · refine (boundary_nil _).mono ?_
    rintro e w3 ⟨rfl, rfl⟩
    go_wp2
    go_ret2
    exact ⟨rfl, HB.out⟩
  all_goals
    refine (undo_nil _ _).mono ?_
    rintro e w3 ⟨rfl, rfl⟩
    go_wp2
    go_ret2
    exact ⟨rfl, HB.out⟩
set_option maxRecDepth 100000 in
set_option maxHeartbeats 8000000 in
theorem apart_walk (l : List Acn) (a : Acn) (v : Value) (W : World) (hT : Rules W) (hr : Rd W v 11 l.length (rows Acn.cells l)) (hm : l.length ≤ maxLen) :
    Calls Tryd.prog 8 #[v, a.val] W fun e w' => e = .returned (.bool true) ∧ Below W.heap.size W w' := by
  have HT := hide hT
  have HR := hide hr
  have HM := hide hm
  have hO := (Own.refl W).newCells 53 a.arr
  obtain ⟨ga, hga⟩ : ∃ ga, ga = W.heap.size := ⟨_, rfl⟩
  have HO := hide hO
  clear hT hr hm hO hga
  go_enter Tryd.func8, Tryd.ntmps8
  go_wp2_with fail
  refine (lives_any _ (HT.out.below HO.out.bel)).mono ?_
  rintro e w1 ⟨rfl, b1⟩
  obtain ⟨ga, hga⟩ : ∃ ga, ga = W.heap.size := ⟨_, rfl⟩
  have O1 := hide (show Own W w1 [actBox ga a] by rw [hga]; exact HO.out.below b1)
  rw [← hga]
  clear b1 HO hga
  go_wp2_with fail
  refine (light_any l v w1 (HR.out.belowR O1.out.bel) HM.out).mono ?_
  rintro e w2 ⟨rfl, rfl⟩
  cases hlight : lightB l with
  | false =>
    go_wp2
    go_ret
    exact ⟨rfl, O1.out.bel⟩
  | true =>
    have HLI := hide (lightB_iff.1 hlight)
    clear hlight
    obtain ⟨a0, a1, a2, a3, a4, a5, a6, a7, a8, a9, a10⟩ := O1.out.atB (List.mem_cons_self ..)
    have O2 := hide (O1.out.skip (.cells a.arr 53))
    have hl1 : Rd (w1.alloc (.cells a.arr 53)) (.slice (some ⟨w1.heap.size, 0, none⟩) 1 1) 11 [a].length (rows Acn.cells [a]) := by rw [rows_one]; exact rd_elem w1 _ 11 a.cells rfl
    have HL1 := hide hl1
    clear hl1
    go_wp2_with fail
    refine (light_any [a] _ _ HL1.out (by simp [maxLen])).mono ?_
    rintro e w3 ⟨rfl, rfl⟩
    cases hla : lightB [a] with
    | false =>
      go_wp2
      go_ret
      exact ⟨rfl, O2.out.bel⟩
    | true =>
      have HAX := hide (show a.c.tx.size ≤ 200 from (lightB_iff.1 hla).1 a (List.mem_cons_self ..))
      clear hla HL1 a0 a1 a2 a3 a4 a5 a6 a7 a8 a9 a10
      generalize w1.alloc (.cells a.arr 53) = w2 at *
      obtain ⟨a0, a1, a2, a3, a4, a5, a6, a7, a8, a9, a10⟩ := O2.out.atB (List.mem_cons_self ..)
      go_wp2_with fail
      refine (do_nil a _).mono ?_
      rintro e w3 ⟨rfl, b3⟩
      have O3 := hide (O2.out.below b3)
      clear a0 a1 a2 a3 a4 a5 a6 a7 a8 a9 a10 b3
      go_wp2_with fail
      refine (chain_nil w3).mono ?_
      rintro e w4 ⟨rfl, rfl⟩
      go_wp2_with fail
      refine (all_nil w3).mono ?_
      rintro e w4 ⟨rfl, rfl⟩
      go_wp2_with fail
      refine (many_nil w3).mono ?_
      rintro e w4 ⟨rfl, rfl⟩
      go_wp2_with fail
      refine (cost_nil w3).mono ?_
      rintro e w4 ⟨rfl, rfl⟩
      go_wp2_with fail
      refine (clear_nil w3).mono ?_
      rintro e w4 ⟨rfl, rfl⟩
      go_wp2_with fail
      refine (copy_nil w3).mono ?_
      rintro e w4 ⟨rfl, rfl⟩
      go_wp2_with fail
      refine (new_ok O3.out 50 (by omega) (by omega)).mono ?_
      rintro e w4 ⟨rfl, h4⟩
      obtain ⟨lb, hlb⟩ : ∃ lb, lb = w3.heap.size := ⟨_, rfl⟩
      rw [← hlb] at h4 ⊢
      have H4 := hide h4
      clear h4 hlb
      obtain ⟨A, cp, rfl, _⟩ := id HR.out
      obtain ⟨N, hN⟩ : ∃ N, N = l.length := ⟨_, rfl⟩
      rw [← hN] at HR ⊢
      have hN60 : N ≤ 60 := by rw [hN]; exact HLI.out.2
      have HNN := hide hN
      clear hN HM
      go_wp2
      go_loopw [12] (fun i wr => ∃ (k : Nat) (bb : Lb) (s : Lg), k ≤ N ∧ i = .int .i64 (k : Int) ∧ bb.lb = lb ∧ LogAt W wr bb s [actBox ga a] ∧ Good s ∧ Sized s k) (fun i _ => N - (intOf i).toNat)
      case atStart => exact ⟨0, _, _, Nat.zero_le _, rfl, rfl, H4.out, Good.new (by omega) (by omega), Sized.new _⟩
      case round =>
        clear H4
        obtain ⟨k, ⟨lb1, gv1, ov1, gs1⟩, s, hk, rfl, e1, h, hg, hz⟩ := hrel
        obtain rfl : lb = lb1 := e1.symm
        have HG := hide hg
        have HZ := hide hz
        by_cases hlt : k < N
        · have y1 : decide (k < N) = true := by simpa using hlt
          have y2 : decide ((k : Int) < (N : Int)) = true := by simp; omega
          obtain ⟨g, off, rfl⟩ := HR.out.some_ (by omega)
          obtain ⟨c, hc⟩ : ∃ a, l[k]? = some a := ⟨_, List.getElem?_eq_getElem (by rw [← HNN.out]; exact hlt)⟩
          obtain ⟨q0, q1, q2, q3, q4, q5, q6, q7, q8, q9, q10⟩ := Rd.atA (HR.out.belowR h.own.bel) hc
          have HTX := hide (HLI.out.1 c (List.mem_of_getElem? hc))
          have H := hide h
          have HLT := hide hlt
          clear h hg hz hc hlt hk
          go_wp2_with fail
          refine (do_any H.out HG.out (HZ.out.small (by omega)) HT.out (by have := HZ.out.many; omega) c (by have := HTX.out; omega)).mono ?_
          rintro e w5 ⟨⟨lb5, gv5, ov5, gs5⟩, v5, hb5, rfl, h5, ok5⟩
          obtain rfl : lb = lb5 := hb5.symm
          have H5 := hide h5.dropC
          have HG5 := hide (HG.out.act c)
          have HZ5 := hide (HZ.out.act HG.out HTX.out)
          clear h5 ok5 q0 q1 q2 q3 q4 q5 q6 q7 q8 q9 q10
          go_wp2
          go_roundw
          case rel => exact ⟨k + 1, ⟨lb, gv5, ov5, gs5⟩, _, HLT.out, by go_num, rfl, H5.out, HG5.out, HZ5.out⟩
          case measure => have := HLT.out; simp [intOf]; omega
        · have y1 : decide (k < N) = false := by simpa using hlt
          have y2 : decide ((k : Int) < (N : Int)) = false := by simp; omega
          have hk60 : k ≤ 60 := by omega
          have hS : Small s := hz.small (by omega)
          have hla : s.all.length ≤ 1000000 := by have := hz.many; omega
          have hmn : s.all.length ≤ 60 := by have := hz.many; omega
          have HS := hide hS
          have HLA := hide hla
          have H := hide h
          have HLE := hide (show ∀ g ∈ s.all, g.length ≤ 1000000 from fun g hg => by have := hz.len g hg; omega)
          have HGA := hide (hg.act a)
          have HZA := hide (hz.act hg HAX.out)
          have HOL := hide (actOut_len hz hg a)
          clear h hg hz hS hlt hk hla
          go_wp2_with fail
          refine (copy_any H.out HG.out.lim1 HS.out).mono ?_
          rintro e w5 ⟨⟨ob, gv5, ov5, gs5⟩, rfl, h5, ok5⟩
          have H5 := hide h5
          have OK5 := hide ok5
          clear h5 ok5 H
          go_wp2_with fail
          refine (all_any H5.out HG.out.lim1 HS.out).mono ?_
          rintro e w6 ⟨va, ha, rfl, hma, h6, oka⟩
          have h7 := (h6.perm (R' := (⟨ob, gv5, ov5, gs5⟩ : Lb).heap s ++ (gosHeap va ha ++ [actBox ga a])) (by
            classical
            rw [List.perm_iff_count]
            intro x
            simp only [List.count_append]
            omega)).flip OK5.out
          have OK6 := hide h6.ok
          have HMA := hide hma
          have OKA := hide oka
          have H7 := hide h7
          obtain ⟨a0, a1, a2, a3, a4, a5, a6, a7, a8, a9, a10⟩ := h7.own.atB (g := ga) (a := a) (by simp)
          clear h6 h7 hma oka H5 OK5
          go_wp2_with fail
          refine (do_any H7.out HG.out HS.out HT.out HLA.out a (by have := HAX.out; omega)).mono ?_
          rintro e w7 ⟨⟨lb8, gv8, ov8, gs8⟩, vx, hb8, rfl, h8, okx⟩
          obtain rfl : ob = lb8 := hb8.symm
          have h9 := (h8.perm (R' := (⟨lb, gv1, ov1, gs1⟩ : Lb).heap s ++ (chgRow vx (s.actOut a) ++ (gosHeap va ha ++ [actBox ga a]))) (by
            classical
            rw [List.perm_iff_count]
            intro x
            simp only [List.count_append]
            omega)).flip OK6.out
          have OK8 := hide h8.ok
          have OKX := hide okx
          have H9 := hide h9
          clear h8 h9 okx H7 a0 a1 a2 a3 a4 a5 a6 a7 a8 a9 a10
          go_wp2_with fail
          refine (all_any H9.out HG.out.lim1 HS.out).mono ?_
          rintro e w10 ⟨vb, hb, rfl, hmb, h10, okb⟩
          have rb := h10.own.rdG (v := vb) (hs := hb) (fun y hy => by simp only [List.mem_append]; exact .inr (.inl hy)) okb
          have ra := h10.own.rdG (v := va) (hs := ha) (fun y hy => by simp only [List.mem_append]; exact .inr (.inr (.inr (.inr (.inl hy))))) OKA.out
          have hga : grps hb = grps ha := hmb.trans HMA.out.symm
          have hla : ha.length ≤ 60 := by have h1 := congrArg List.length HMA.out; rw [List.length_map] at h1; omega
          have hlb : hb.length ≤ 60 := by have h1 := congrArg List.length hmb; rw [List.length_map] at h1; omega
          have hsame := same19_any hb ha vb va w10 rb ra (by omega) (by omega) (fun x hx => HLE.out x.2 (by rw [← hmb]; exact List.mem_map_of_mem hx)) (fun x hx => HLE.out x.2 (by rw [← HMA.out]; exact List.mem_map_of_mem hx))
          rw [isB_true hga] at hsame
          have HSAME := hide hsame
          have H10 := hide (h10.sub (R' := (⟨ob, gv8, ov8, gs8⟩ : Lb).heap (s.act a) ++ (chgRow vx (s.actOut a) ++ [actBox ga a])) ((List.Sublist.append (List.Sublist.refl _) (List.Sublist.append (List.Sublist.refl _) (List.sublist_append_right _ _))).trans (List.sublist_append_right _ _)))
          clear h10 okb rb ra hga hla hlb hsame hmb H9 OKA HMA
          go_wp2_with fail
          refine (Calls.mono HSAME.out) ?_
          rintro e w11 ⟨rfl, q, rfl⟩
          have H11 := hide (H10.out.drewN q)
          obtain ⟨a0, a1, a2, a3, a4, a5, a6, a7, a8, a9, a10⟩ := H10.out.own.atB (g := ga) (a := a) (by simp)
          clear H10 HSAME
          go_wp2_with fail
          refine (do_any H11.out HG.out HS.out HT.out HLA.out a (by have := HAX.out; omega)).mono ?_
          rintro e w12 ⟨⟨lb12, gv12, ov12, gs12⟩, vy, hb12, rfl, h12, oky⟩
          obtain rfl : lb = lb12 := hb12.symm
          have h13 := h12.perm (R' := (⟨ob, gv8, ov8, gs8⟩ : Lb).heap (s.act a) ++ (chgRow vy (s.actOut a) ++ (chgRow vx (s.actOut a) ++ [actBox ga a]))) (by
            classical
            rw [List.perm_iff_count]
            intro x
            simp only [List.count_append]
            omega)
          have hx := (h12.perm (R' := chgRow vx (s.actOut a) ++ (chgRow vy (s.actOut a) ++ ((⟨ob, gv8, ov8, gs8⟩ : Lb).heap (s.act a) ++ [actBox ga a]))) (by
            classical
            rw [List.perm_iff_count]
            intro x
            simp only [List.count_append]
            omega)).rdC OKX.out
          have hy := h12.rdC oky
          have hchg := same_chgs (s.actOut a) (s.actOut a) vx vy w12 hx hy (by have := HOL.out; omega) (by have := HOL.out; omega)
          rw [isB_true rfl] at hchg
          have HCHG := hide hchg
          have hfl := h13.flip OK8.out
          have HFL := hide hfl
          have H13 := hide (h13.sub (R' := (⟨ob, gv8, ov8, gs8⟩ : Lb).heap (s.act a) ++ []) (List.Sublist.append (List.Sublist.refl _) (List.nil_sublist _)))
          obtain ⟨c1, c2, hch⟩ : ∃ c1 c2, (s.act a).chain = .returned (.tuple #[.int .i64 c1, .bool c2]) := ⟨_, _, rfl⟩
          have HCA := hide (chain_any H13.out HGA.out.lim1)
          have HCB := hide (chain_any hfl HGA.out.lim1)
          rw [hch] at HCA HCB
          obtain ⟨er, her⟩ : ∃ er, er = s.actErr a := ⟨_, rfl⟩
          rw [← her]
          have hS2 : Small (s.act a) := HZA.out.small (by omega)
          have HS2 := hide hS2
          have hmn2 : (s.act a).all.length ≤ 61 := by have := HZA.out.many; omega
          have HLE2 := hide (show ∀ g ∈ (s.act a).all, g.length ≤ 1000000 from fun g hg => by have := HZA.out.len g hg; omega)
          clear h12 h13 hx hy hchg hfl hch her oky hS2 H11 a0 a1 a2 a3 a4 a5 a6 a7 a8 a9 a10
          go_wp2_with fail
          refine (Calls.mono HCA.out) ?_
          rintro e w13 ⟨rfl, rfl⟩
          go_wp2_with fail
          refine (Calls.mono HCB.out) ?_
          rintro e w13 ⟨rfl, rfl⟩
          go_wp2_with fail
          refine (Calls.mono HCHG.out) ?_
          rintro e w13 ⟨rfl, q2, rfl⟩
          have H14 := hide (H13.out.drewN q2)
          clear H13 HFL HCA HCB HCHG
          go_wp2_with fail
          refine (all_any H14.out HGA.out.lim1 HS2.out).mono ?_
          rintro e w15 ⟨va, ha, rfl, hma, h15, oka⟩
          have h16 := (h15.perm (R' := (⟨ob, gv8, ov8, gs8⟩ : Lb).heap (s.act a) ++ (gosHeap va ha ++ [])) (by
            classical
            rw [List.perm_iff_count]
            intro x
            simp only [List.count_append]
            omega)).flip OK8.out
          have HMA := hide hma
          have OKA := hide oka
          have H16 := hide h16
          clear h15 h16 hma oka H14
          go_wp2_with fail
          refine (all_any H16.out HGA.out.lim1 HS2.out).mono ?_
          rintro e w17 ⟨vb, hb, rfl, hmb, h17, okb⟩
          have rb := h17.own.rdG (v := vb) (hs := hb) (fun y hy => by simp only [List.mem_append]; exact .inr (.inl hy)) okb
          have ra := h17.own.rdG (v := va) (hs := ha) (fun y hy => by simp only [List.mem_append]; exact .inr (.inr (.inr (.inl hy)))) OKA.out
          have hga : grps ha = grps hb := HMA.out.trans hmb.symm
          have hla : ha.length ≤ 61 := by have h1 := congrArg List.length HMA.out; rw [List.length_map] at h1; omega
          have hlb : hb.length ≤ 61 := by have h1 := congrArg List.length hmb; rw [List.length_map] at h1; omega
          have hsame := same19_any ha hb va vb w17 ra rb (by omega) (by omega) (fun x hx => HLE2.out x.2 (by rw [← HMA.out]; exact List.mem_map_of_mem hx)) (fun x hx => HLE2.out x.2 (by rw [← hmb]; exact List.mem_map_of_mem hx))
          rw [isB_true hga] at hsame
          have HSAME := hide hsame
          have HB17 := hide h17.own.bel
          clear h17 okb rb ra hga hla hlb hsame hmb H16 OKA HMA
          go_wp2_with fail
          refine (Calls.mono HSAME.out) ?_
          rintro e w18 ⟨rfl, q3, rfl⟩
          go_wp2
          go_ret
          exact ⟨rfl, HB17.out.trans ⟨rfl, rfl, rfl, Nat.le_refl _, fun _ _ => rfl⟩⟩
end Go.Proofs.YtghcmakhfdnimaaDoor
