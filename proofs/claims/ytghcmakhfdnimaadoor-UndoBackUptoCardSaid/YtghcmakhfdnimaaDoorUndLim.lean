/- UndoLimit returns true for every limit and every list of acts. No condition but those written. -/
import Derived.Test.YtghcmakhfdnimaaDoorUndQ
namespace Go.Proofs.YtghcmakhfdnimaaDoor
open Go.RowKit

/-- What Pick returns. -/
def pickZ (n k : Int) : Int := if n.tmod k < 0 then n.tmod k + k else n.tmod k
theorem pickZ_ge {n k : Int} (hk : 0 < k) : 0 ≤ pickZ n k := by
  have := Int.lt_tmod_of_pos n hk
  unfold pickZ
  split <;> omega
theorem pickZ_lt {n k : Int} (hk : 0 < k) : pickZ n k < k := by
  have := Int.tmod_lt_of_pos n hk
  unfold pickZ
  split <;> omega
theorem pick_any (n k : Int) (w : World) (hk : 0 < k) (hk2 : k ≤ 100000) : Calls Tryd.prog 14 #[.int .i64 n, .int .i64 k] w fun e w' => e = .returned (.int .i64 (pickZ n k)) ∧ w = w' := by
  have hz : decide (k ≤ 0) = false := by simp; omega
  have b1 := Int.lt_tmod_of_pos n hk
  have b2 := Int.tmod_lt_of_pos n hk
  by_cases h : n.tmod k < 0
  · have hz2 : decide (n.tmod k < 0) = true := by simpa using h
    have HP := hide (show pickZ n k = n.tmod k + k by unfold pickZ; rw [if_pos h])
    go_enter Tryd.func14, Tryd.ntmps14
    go_wp2
    go_ret
    exact ⟨by rw [HP.out]; rfl, rfl⟩
  · have hz2 : decide (n.tmod k < 0) = false := by simpa using h
    have HP := hide (show pickZ n k = n.tmod k by unfold pickZ; rw [if_neg h])
    go_enter Tryd.func14, Tryd.ntmps14
    go_wp2
    go_ret
    exact ⟨by rw [HP.out]; rfl, rfl⟩

theorem isB_self {α : Type} (x : α) : isB (x = x) = true := isB_true rfl
theorem isB_tt : isB True = true := isB_true trivial
set_option maxRecDepth 100000 in
set_option maxHeartbeats 4000000 in
theorem limit_walk (n : Int) (l : List Acn) (v : Value) (W : World) (hT : Rules W) (hr : Rd W v 11 l.length (rows Acn.cells l)) (hm : l.length ≤ maxLen) :
    Calls Tryd.prog 5 #[.int .i64 n, v] W fun e w' => e = .returned (.bool true) ∧ Below W.heap.size W w' := by
  have HT := hide hT
  have HR := hide hr
  have HM := hide hm
  clear hT hr hm
  go_enter Tryd.func5, Tryd.ntmps5
  go_wp2_with fail
  refine (lives_any W HT.out).mono ?_
  rintro e w1 ⟨rfl, b1⟩
  have HB1 := hide b1
  clear b1
  go_wp2_with fail
  refine (light_any l v w1 (HR.out.belowR HB1.out) HM.out).mono ?_
  rintro e w2 ⟨rfl, rfl⟩
  cases hlight : lightB l with
  | false =>
    go_wp2
    go_ret
    exact ⟨rfl, HB1.out⟩
  | true =>
    have HLI := hide (lightB_iff.1 hlight)
    clear hlight
    have p1 := pickZ_ge (n := n) (k := 60) (by omega)
    have p2 := pickZ_lt (n := n) (k := 60) (by omega)
    go_wp2_with fail
    refine (pick_any n 60 _ (by omega) (by omega)).mono ?_
    rintro e w2 ⟨rfl, rfl⟩
    obtain ⟨z, hz⟩ : ∃ z, z = pickZ n 60 := ⟨_, rfl⟩
    rw [← hz] at p1 p2 ⊢
    clear hz
    go_wp2_with fail
    refine (new_ok (W := W) (L := []) ⟨HB1.out, by simp [Heap.blocks], fun x hx => by cases hx⟩ (1 + z) (by omega) (by omega)).mono ?_
    rintro e w3 ⟨rfl, h3⟩
    go_wp2_with fail
    refine (new_ok (W := W) (h3.own) 1048576 (by omega) (by omega)).mono ?_
    rintro e w4 ⟨rfl, h4⟩
    have h5 := LogAt.flip (R := []) h4 (new_lbok w1.heap.size (1 + z))
    obtain ⟨g2, hg2⟩ : ∃ g2, g2 = w3.heap.size := ⟨_, rfl⟩
    rw [← hg2] at h5 ⊢
    have H5 := hide h5
    have HN2 := hide (new_lbok g2 1048576)
    clear h3 h4 h5 hg2
    obtain ⟨A, cp, rfl, _⟩ := id HR.out
    obtain ⟨N, hN⟩ : ∃ N, N = l.length := ⟨_, rfl⟩
    rw [← hN] at HR ⊢
    have hN60 : N ≤ 60 := by rw [hN]; exact HLI.out.2
    have HNN := hide hN
    clear hN HM
    go_wp2
    go_loopw [9] (fun i wr => ∃ (k : Nat) (b1 b2 : Lb) (u t : Lg), k ≤ N ∧ i = .int .i64 (k : Int) ∧ b1.lb = w1.heap.size ∧ b2.lb = g2 ∧ LogAt W wr b1 u (b2.heap t ++ []) ∧ LbOk b2 t ∧ Sync (1 + z) u t k) (fun i _ => N - (intOf i).toNat)
    case atStart => exact ⟨0, _, _, _, _, Nat.zero_le _, rfl, rfl, rfl, H5.out, HN2.out, Sync.start (by omega) (by omega)⟩
    case round =>
      obtain ⟨k, ⟨lb1, gv1, ov1, gs1⟩, ⟨lb2, gv2, ov2, gs2⟩, u, t, hk, rfl, e1, e2, h, ok2, hs⟩ := hrel
      obtain rfl : lb1 = w1.heap.size := e1
      obtain rfl : g2 = lb2 := e2.symm
      by_cases hlt : k < N
      · have y1 : decide (k < N) = true := by simpa using hlt
        have y2 : decide ((k : Int) < (N : Int)) = true := by simp; omega
        obtain ⟨g, off, rfl⟩ := HR.out.some_ (by omega)
        obtain ⟨a, ha⟩ : ∃ a, l[k]? = some a := ⟨_, List.getElem?_eq_getElem (by rw [← HNN.out]; exact hlt)⟩
        have HACT := hide (fun (w' : World) (hb : Below W.heap.size W w') => Rd.atA (HR.out.belowR hb) ha)
        have HTX := hide (HLI.out.1 a (List.mem_of_getElem? ha))
        have HS := hide hs
        have HOK2 := hide ok2
        have H0 := hide h.drew
        clear h ok2 hs ha
        go_wp2_with fail
        go_region_held3 (fun w' => w'.cell? ⟨g, off + k * 11 + 1, none⟩ = some (.int .i64 a.c.k) ∧ w'.cell? ⟨g, off + k * 11 + 2, none⟩ = some (.int .i64 a.c.a) ∧ w'.cell? ⟨g, off + k * 11 + 3, none⟩ = some (.int .i64 a.c.t) ∧ w'.cell? ⟨g, off + k * 11 + 4, none⟩ = some (.int .i64 a.c.id) ∧ w'.cell? ⟨g, off + k * 11 + 5, none⟩ = some (.int .i64 a.c.nm) ∧ w'.cell? ⟨g, off + k * 11 + 6, none⟩ = some (.string a.c.tx) ∧ w'.cell? ⟨g, off + k * 11 + 7, none⟩ = some (.int .i64 a.c.vk) ∧ w'.cell? ⟨g, off + k * 11 + 8, none⟩ = some (.int .i64 a.c.vn) ∧ w'.cell? ⟨g, off + k * 11 + 9, none⟩ = some (.bool a.c.had))
          (first | exact (HACT.out _ H0.out.own.bel).nine | exact (HACT.out _ H7.out.own.bel).nine | exact (HACT.out _ H5.out.own.bel).nine)
          ((first
            | (go_at_call_of 21 (Value.pointer (some ⟨w1.heap.size, 0, none⟩)); refine (add_any H0.out HS.out.gu (HS.out.su.small (by omega)) HT.out a.c (by have := HTX.out; omega)).mono ?_; rintro e w5 ⟨rfl, ⟨lb5, gv5, ov5, gs5⟩, hb5, h5⟩; obtain rfl : lb5 = w1.heap.size := hb5; have H5 := hide (LogAt.flip (R := []) h5 HOK2.out); have HOK1 := hide h5.ok; clear h5)
            | (go_at_call_of 21 (Value.pointer (some ⟨g2, 0, none⟩)); refine (add_any H5.out HS.out.gv (HS.out.sv.small (by omega)) HT.out a.c (by have := HTX.out; omega)).mono ?_; rintro e w6 ⟨rfl, ⟨lb6, gv6, ov6, gs6⟩, hb6, h6⟩; obtain rfl : g2 = lb6 := hb6.symm; have H7 := hide (LogAt.flip (R := []) h6 HOK1.out); have HOK3 := hide h6.ok; clear h6)))
        have HSA := hide (HS.out.add (by omega) HTX.out)
        have zc : (a.c.check != a.c.check) = false := by simp
        have q10 := (HACT.out _ H7.out.own.bel).p10
        cases hag : a.ag with
        | false =>
          rw [hag] at q10
          go_wp2
          go_roundw
          case rel => exact ⟨k + 1, ⟨w1.heap.size, gv5, ov5, gs5⟩, ⟨g2, gv6, ov6, gs6⟩, _, _, by omega, by go_num, rfl, rfl, H7.out, HOK3.out, HSA.out⟩
          case measure => simp [intOf]; omega
        | true =>
          rw [hag] at q10
          have HSC := hide (HSA.out.close (by omega))
          have HFI := hide HSA.out.fits
          go_wp2_with fail
          refine (boundary_any H7.out HSA.out.gu (HSA.out.su.small (by omega)) HT.out).mono ?_
          rintro e w8 ⟨rfl, ⟨lb8, gv8, ov8, gs8⟩, hb8, h8⟩
          obtain rfl : lb8 = w1.heap.size := hb8
          have H8 := hide (LogAt.flip (R := []) h8 HOK3.out)
          have HOK8 := hide h8.ok
          clear h8
          go_wp2_with fail
          refine (boundary_any H8.out HSA.out.gv (HSA.out.sv.small (by omega)) HT.out).mono ?_
          rintro e w9 ⟨rfl, ⟨lb9, gv9, ov9, gs9⟩, hb9, h9⟩
          obtain rfl : g2 = lb9 := hb9.symm
          have H9 := hide (LogAt.flip (R := []) h9 HOK8.out)
          have HOK9 := hide h9.ok
          clear h9
          go_wp2_with fail
          refine (cost_any H9.out HSC.out.gu.lim1).mono ?_
          rintro e w10 ⟨rfl, rfl⟩
          have hmany : (u.add a.c).close.G.length ≤ 1000000 := by have := HSC.out.su.manyG; omega
          by_cases hc : (1 + z) < (u.add a.c).close.cost
          · have zz : decide ((1 + z) < (u.add a.c).close.cost) = true := by simpa using hc
            have hle : (u.add a.c).close.all.length ≤ 1 := by
              rcases HFI.out with h1 | h1
              · omega
              · exact h1
            have zz2 : decide ((1 : Int) < ((u.add a.c).close.all.length : Int)) = false := by simp; omega
            have zz3 : decide (1 < (u.add a.c).close.all.length) = false := by simp; omega
            have HMA := hide (many_any H9.out HSC.out.gu.lim1 hmany)
            obtain ⟨m, hmm⟩ : ∃ m, m = (u.add a.c).close.all.length := ⟨_, rfl⟩
            rw [← hmm] at HMA zz2 zz3
            clear hc hle hmany hmm
            go_wp2_with fail
            refine (Calls.mono HMA.out) ?_
            rintro e w11 ⟨rfl, rfl⟩
            go_wp2
            go_roundw
            case rel => exact ⟨k + 1, ⟨w1.heap.size, gv8, ov8, gs8⟩, ⟨g2, gv9, ov9, gs9⟩, _, _, by omega, by go_num, rfl, rfl, H9.out, HOK9.out, HSC.out⟩
            case measure => simp [intOf]; omega
          · have zz : decide ((1 + z) < (u.add a.c).close.cost) = false := by simpa using hc
            clear hc hmany
            go_wp2
            go_roundw
            case rel => exact ⟨k + 1, ⟨w1.heap.size, gv8, ov8, gs8⟩, ⟨g2, gv9, ov9, gs9⟩, _, _, by omega, by go_num, rfl, rfl, H9.out, HOK9.out, HSC.out⟩
            case measure => simp [intOf]; omega
      · have y1 : decide (k < N) = false := by simpa using hlt
        have y2 : decide ((k : Int) < (N : Int)) = false := by simp; omega
        obtain rfl : k = N := by omega
        have HS := hide hs
        have HOK2 := hide ok2
        have HMU := hide (hs.su.manyG)
        have hall := all_any h hs.gu.lim1 (hs.su.small (by omega))
        have HALL := hide hall
        clear hall h ok2 hs
        go_wp2_with fail
        refine (Calls.mono HALL.out) ?_
        rintro e w5 ⟨va, ha, rfl, hma, h5, oka⟩
        have h6 := (h5.perm (R' := (⟨g2, gv2, ov2, gs2⟩ : Lb).heap t ++ (gosHeap va ha ++ [])) (by
          classical
          rw [List.perm_iff_count]
          intro x
          simp only [List.count_append]
          omega)).flip HOK2.out
        have HALL2 := hide (all_any h6 HS.out.gv.lim1 (HS.out.sv.small (by omega)))
        have HMA := hide hma
        have HOKA := hide oka
        clear h5 h6 hma oka HALL
        go_wp2_with fail
        refine (Calls.mono HALL2.out) ?_
        rintro e w6 ⟨vb, hb, rfl, hmb, h7, okb⟩
        have HB7 := hide h7.own.bel
        have ra := h7.own.rdG (v := va) (hs := ha) (fun y hy => by simp only [List.mem_append]; exact .inr (.inr (.inr (.inl hy)))) HOKA.out
        have rb := h7.own.rdG (v := vb) (hs := hb) (fun y hy => by simp only [List.mem_append]; exact .inr (.inl hy)) okb
        have hsuf : grps ha <:+ grps hb := by rw [show grps ha = u.all from HMA.out, show grps hb = t.all from hmb]; exact HS.out.all_suf
        have hla : ha.length ≤ 1000 := by have h1 := congrArg List.length HMA.out; rw [List.length_map] at h1; have := HS.out.su.many; omega
        have hlb : hb.length ≤ 1000 := by have h1 := congrArg List.length hmb; rw [List.length_map] at h1; have := HS.out.sv.many; omega
        have HEA := hide (show ∀ x ∈ ha, x.2.length ≤ 1000000 from fun x hx => by
          have := HS.out.su.len x.2 (by rw [← HMA.out]; exact List.mem_map_of_mem hx)
          omega)
        have HEB := hide (show ∀ x ∈ hb, x.2.length ≤ 1000000 from fun x hx => by
          have := HS.out.sv.len x.2 (by rw [← hmb]; exact List.mem_map_of_mem hx)
          omega)
        have hne : ha.length = 0 → hb.length = 0 := fun h0 => by
          have e1 : u.all = [] := by rw [← HMA.out, List.eq_nil_of_length_eq_zero h0]; rfl
          have e2 : t.all = [] := by
            by_cases e : t.all = []
            · exact e
            · exact absurd e1 (HS.out.all_ne e)
          have h1 := congrArg List.length hmb
          rw [List.length_map, e2] at h1
          exact h1
        have hle : ha.length ≤ hb.length := by have := hsuf.length_le; simpa [grps] using this
        obtain ⟨A1, c1, rfl, _⟩ := id ra.hd
        obtain ⟨A2, c2, rfl, hc2, hc2m⟩ := (h7.own.gosSl (v := vb) (hs := hb) (fun y hy => by simp only [List.mem_append]; exact .inr (.inl hy)) okb).form
        obtain ⟨d, hd⟩ : ∃ d, hb.length = d + ha.length := ⟨hb.length - ha.length, by omega⟩
        have hdrop : grps (hb.drop d) = grps ha := by
          obtain ⟨q, hq⟩ := hsuf
          have hql : q.length = d := by have := congrArg List.length hq; simp [grps] at this; omega
          show (hb.drop d).map _ = _
          rw [List.map_drop, show hb.map (fun x : Value × List Chg => x.2) = grps hb from rfl, ← hq, ← hql, List.drop_left]
        have HDR := hide hdrop
        by_cases h0 : ha.length = 0
        · have h1 := hne h0
          have hda : ha = [] := List.eq_nil_of_length_eq_zero h0
          have hdb : hb = [] := List.eq_nil_of_length_eq_zero h1
          subst hda hdb
          clear HALL2 h7 okb hmb ra rb hsuf hla hlb hne hle hd hdrop h0 h1 HDR HMA HOKA HEA HEB hc2 hc2m
          have nilG : ∀ A c, RdG w6 (.slice A 0 c) [] := fun A c => ⟨⟨A, c, rfl, rfl, fun h => absurd h (by simp)⟩, fun x hx => by cases hx⟩
          have hsm := (fun A c => same19_any [] [] (.slice A1 0 c1) (.slice A 0 c) w6 (nilG A1 c1) (nilG A c) (by simp) (by simp) (fun x hx => by cases hx) (fun x hx => by cases hx))
          simp only [isB_tt] at hsm
          have HSM := hide hsm
          clear nilG hsm
          go_wp2_with (go_at_call 22; refine Calls.mono (HSM.out _ _) ?_; rintro e w7 ⟨rfl, q, rfl⟩)
          all_goals
            go_wp2
            go_ret
            exact ⟨rfl, HB7.out.trans ⟨rfl, rfl, rfl, Nat.le_refl _, fun _ _ => rfl⟩⟩
        · obtain ⟨gq, oq, rfl⟩ := rb.hd.some_ (by omega)
          have hrd := rb.drop_ (d := d) (by omega)
          have HSM := hide (same19_any ha (hb.drop d) _ _ w6 ra hrd (by omega) (by simp; omega) HEA.out (fun x hx => HEB.out x (List.mem_of_mem_drop hx)))
          rw [hdrop, show isB (grps ha = grps ha) = true from isB_true rfl, show (hb.drop d).length = ha.length by simp; omega] at HSM
          obtain ⟨m, hmm⟩ : ∃ m, m = ha.length := ⟨_, rfl⟩
          rw [← hmm] at HSM hla h0 hd ⊢
          rw [hd] at hlb hc2 ⊢
          have hm0 : 0 < m := by omega
          have hdc : d < c2 := by omega
          unfold maxLen at hc2m
          have HSM2 := HSM
          clear HSM HALL2 h7 okb hmb ra rb hsuf hne hle hd hdrop h0 HDR HMA HOKA HEA HEB hmm hrd
          have z1 : decide (m ≤ d + m) = true := by simp
          have z2 : decide ((m : Int) ≤ (d : Int) + (m : Int)) = true := by simp; omega
          have z3 : ((d : Int) + (m : Int) == 0) = false := by simp; omega
          have z4 : ((m : Int) == 0) = false := by simp; omega
          have z5 : (d + m == 0) = false := by simp; omega
          have z6 : (m == 0) = false := by simp; omega
          have z7 : (0 : Int) ≤ (d : Int) := by omega
          have z8 : (d : Int) ≤ (d : Int) + (m : Int) := by omega
          go_wp2_with fail
          refine (Calls.mono HSM2.out) ?_
          rintro e w7 ⟨rfl, q, rfl⟩
          go_wp2
          go_ret
          exact ⟨rfl, HB7.out.trans ⟨rfl, rfl, rfl, Nat.le_refl _, fun _ _ => rfl⟩⟩
end Go.Proofs.YtghcmakhfdnimaaDoor
