/- The reference of chapter 20, a buffer: Insert, New, its text. No condition but those written. -/
import Derived.Test.YtnbhejbpofjamaaGreatDoorYrf
namespace Go.Proofs.YtnbhejbpofjamaaGreatDoor
open Go.RowKit

/-- The blocks of a buffer of the reference. -/
def yHeap (z : Yb) (s : Bz) : Heap := z.lb.rheap (lgS s.tick s.L.length) ++ ((z.bp, .cells 61 (yD z (s.L.length + 1) (s.L.length + 1) s.tick s.r)) :: (yrest z s.p s.q ++ rHeap z.tb z.tv s.L))
structure YOk (z : Yb) (s : Bz) : Prop where
  lok : LbOk z.lb (lgS s.tick s.L.length)
  okt : RowOk z.tv s.L.length
  mvf : ∃ A c, z.mv = .slice A 0 c
  ovf : ∃ A c, z.ov = .slice A 0 c
  h0 : s.tick = 0 → s.L = []
  h6 : s.L.length ≤ 65536
section
variable {W w w' : World} {z : Yb} {s : Bz} {L : List Nat} {lg : Lg} {cs : Array Value} {p q r : Int} {X : Heap} {tick pt pm : Nat}
theorem yHeap_app (z : Yb) (s : Bz) (X : Heap) : yHeap z s ++ X = z.lb.rheap (lgS s.tick s.L.length) ++ ((z.bp, .cells 61 (yD z (s.L.length + 1) (s.L.length + 1) s.tick s.r)) :: (yrest z s.p s.q ++ (rHeap z.tb z.tv s.L ++ X))) := by
  unfold yHeap
  simp only [List.append_assoc, List.cons_append]
theorem YOk.at_ (k : YOk z s) (ho : Own W w (yHeap z s ++ X)) : YAt W w z s.L (lgS s.tick s.L.length) (yD z (s.L.length + 1) (s.L.length + 1) s.tick s.r) s.p s.q X := by
  rw [yHeap_app] at ho
  exact ⟨⟨ho, k.lok⟩, k.okt, k.mvf, k.ovf⟩
theorem YAt.out (h : YAt W w z s.L (lgS s.tick s.L.length) (yD z (s.L.length + 1) (s.L.length + 1) s.tick s.r) s.p s.q X) (h0 : s.tick = 0 → s.L = []) (h6 : s.L.length ≤ 65536) : Own W w (yHeap z s ++ X) ∧ YOk z s := by
  rw [yHeap_app]
  exact ⟨h.own, h.log.ok, h.okt, h.mvf, h.ovf, h0, h6⟩
theorem yHeap_bp (z : Yb) (s : Bz) : z.bp ∈ Heap.blocks (yHeap z s) := by
  unfold yHeap
  rw [Heap.blocks_append, Heap.blocks_cons]
  exact List.mem_append_right _ (List.mem_cons_self ..)
theorem r20size_any (h : YAt W w z L lg (yD z pt pm tick r) p q X) (h6 : L.length ≤ 65536) : Calls Tryz.prog 115 #[.pointer (some ⟨z.bp, 0, none⟩)] w fun e w' => e = .returned (.int .i64 (L.length : Int)) ∧ w = w' := by
  have c0 : w.cell? ⟨z.bp, 0, none⟩ = some (.pointer (some ⟨z.tb, 0, none⟩)) := (h.blk.cell 0).trans rfl
  obtain ⟨A, c, _, hin, _⟩ := h.text.open_ h6
  have HS := hide (rsize_any hin)
  clear h h6 hin
  go_enter Tryz.func115, Tryz.ntmps115
  go_wp2_with fail
  refine Calls.mono HS.out ?_
  rintro e w1 ⟨rfl, rfl⟩
  go_wp2_with fail
  go_ret
  exact ⟨rfl, rfl⟩
theorem yall_any (h : YAt W w z L lg (yD z pt pm tick r) p q X) (h6 : L.length ≤ 65536) (hok : ∀ x ∈ L, okc x) : Calls Tryz.prog 33 #[.pointer (some ⟨z.tb, 0, none⟩)] w fun e w' => e = .returned (.string (strOf L)) ∧ Below w.heap.size w w' := by
  obtain ⟨A, c, _, hin, h1, h2, h3⟩ := h.text.open_ h6
  exact rall_any hin hok h1 h2 h3
set_option maxRecDepth 100000 in
set_option maxHeartbeats 4000000 in
theorem rfits_any (h : YAt W w z L lg (yD z pt pm tick r) p q X) (h6 : L.length ≤ 65536) (t : ByteArray) (ht : t.size ≤ 300) : Calls Tryz.prog 77 #[.pointer (some ⟨z.bp, 0, none⟩), .string t, .int .i64 0] w fun e w' => e = .returned (.int .i64 (fitE L t)) ∧ Below w.heap.size w w' := by
  have HV := hide (refvalid_any t w (by omega))
  have HL := hide (fun (w1 : World) => reflen_any t w1 (by omega))
  have HS := hide (fun (w1 : World) (hb : Below w.heap.size w w1) => r20size_any (h.below hb) h6)
  have hl := lenS_le t
  cases hv : validS t with
  | false =>
    have HF := hide (show fitE L t = 5 from by unfold fitE; rw [if_pos hv])
    rw [hv] at HV
    clear h h6 ht hl hv
    go_enter Tryz.func77, Tryz.ntmps77
    go_wp2_with fail
    refine Calls.mono HV.out ?_
    rintro e w1 ⟨rfl, b1⟩
    have HB1 := hide b1
    clear b1
    go_wp2_with fail
    go_ret
    exact ⟨by rw [HF.out]; rfl, HB1.out⟩
  | true =>
    have HF := hide (show fitE L t = if 65536 < L.length + lenS t then 4 else 0 from by unfold fitE; rw [if_neg (by rw [hv]; simp)])
    rw [hv] at HV
    obtain ⟨n, hn⟩ : ∃ n, n = lenS t := ⟨_, rfl⟩
    obtain ⟨m, hm⟩ : ∃ m, m = L.length := ⟨_, rfl⟩
    rw [← hn] at HL HF
    rw [← hm] at HS HF
    have hn1 : (n : Int) ≤ 300 := by omega
    have hm1 : (m : Int) ≤ 65536 := by omega
    clear h h6 ht hl hv hn hm
    by_cases hbig : 65536 < m + n
    · have z1 : decide ((65536 : Int) - (m : Int) < (n : Int)) = true := by simp; omega
      have HF2 := hide (show fitE L t = 4 from by rw [HF.out, if_pos hbig])
      clear hbig
      go_enter Tryz.func77, Tryz.ntmps77
      go_wp2_with fail
      refine Calls.mono HV.out ?_
      rintro e w1 ⟨rfl, b1⟩
      have HB1 := hide b1
      clear b1
      go_wp2_with fail
      refine Calls.mono (HL.out w1) ?_
      rintro e w2 ⟨rfl, b2⟩
      have HB2 := hide (HB1.out.trans (b2.mono HB1.out.size))
      clear b2
      go_wp2_with fail
      refine Calls.mono (HS.out w2 HB2.out) ?_
      rintro e w3 ⟨rfl, rfl⟩
      go_wp2_with fail
      go_ret
      exact ⟨by rw [HF2.out]; rfl, HB2.out⟩
    · have z1 : decide ((65536 : Int) - (m : Int) < (n : Int)) = false := by simp; omega
      have HF2 := hide (show fitE L t = 0 from by rw [HF.out, if_neg hbig])
      clear hbig
      go_enter Tryz.func77, Tryz.ntmps77
      go_wp2_with fail
      refine Calls.mono HV.out ?_
      rintro e w1 ⟨rfl, b1⟩
      have HB1 := hide b1
      clear b1
      go_wp2_with fail
      refine Calls.mono (HL.out w1) ?_
      rintro e w2 ⟨rfl, b2⟩
      have HB2 := hide (HB1.out.trans (b2.mono HB1.out.size))
      clear b2
      go_wp2_with fail
      refine Calls.mono (HS.out w2 HB2.out) ?_
      rintro e w3 ⟨rfl, rfl⟩
      go_wp2_with fail
      go_ret
      exact ⟨by rw [HF2.out]; rfl, HB2.out⟩
def YIns (W : World) (z : Yb) (s : Bz) (t : ByteArray) (X : Heap) (e : Ending) (w' : World) : Prop := e = .returned (.int .i64 (fitE s.L t)) ∧ ∃ z' : Yb, z'.bp = z.bp ∧ Own W w' (yHeap z' (insB s t) ++ X) ∧ YOk z' (insB s t)
set_option maxRecDepth 100000 in
set_option maxHeartbeats 8000000 in
theorem yinsert_any (k : YOk z s) (ho : Own W w (yHeap z s ++ X)) (t : ByteArray) (ht : t.size ≤ 300) (htk : s.tick ≤ 1000000) :
    Calls Tryz.prog 56 #[.pointer (some ⟨z.bp, 0, none⟩), .string t, .bool false] w (YIns W z s t X) := by
  have h := k.at_ ho
  have h6 := k.h6
  have c5 : w.cell? ⟨z.bp, 5, none⟩ = some (.int .i64 ((s.L.length + 1 : Nat) : Int)) := (h.blk.cell 5).trans rfl
  have HSH := hide (rshut_any w h.blk h.pb_ (s.L.length + 1) (by omega) (by omega))
  have HFI := hide (fun (w1 : World) (hb : Below w.heap.size w w1) => rfits_any (h.below hb) h6 t ht)
  have H := hide h
  have HK := hide k
  have HT := hide ht
  have HTK := hide htk
  obtain ⟨pt, hpt⟩ : ∃ pt, pt = s.L.length + 1 := ⟨_, rfl⟩
  rw [← hpt] at c5 HSH
  have HPT := hide hpt
  have hp1 : (pt : Int) ≤ 65537 := by omega
  clear h k ho ht htk hpt
  by_cases hf : fitE s.L t = 0
  · rw [hf] at HFI
    have HF := hide hf
    by_cases hz : lenS t = 0
    · have HI := hide (show insB s t = s from insB_same (fun h9 => h9.2 hz))
      have HLN := reflen_any t
      rw [hz] at HLN
      have HLN := hide HLN
      have HZ := hide hz
      clear hf hz h6
      go_enter Tryz.func56, Tryz.ntmps56
      go_wp2_with fail
      refine Calls.mono HSH.out ?_
      rintro e w1 ⟨rfl, b1⟩
      have HB1 := hide b1
      clear b1
      go_wp2_with fail
      refine Calls.mono (HFI.out w1 HB1.out) ?_
      rintro e w2 ⟨rfl, b2⟩
      have HB2 := hide (HB1.out.trans (b2.mono HB1.out.size))
      have d5 : w2.cell? ⟨z.bp, 5, none⟩ = some (.int .i64 (pt : Int)) := cell_keep c5 HB2.out
      clear b2
      go_wp2_with fail
      refine Calls.mono (yput_none t HT.out HZ.out z.bp (pt : Int)) ?_
      rintro e w3 ⟨rfl, b3⟩
      have HB3 := hide (HB2.out.trans (b3.mono HB2.out.size))
      clear b3
      go_wp2_with fail
      refine Calls.mono (HLN.out w3 (by have := HT.out; omega)) ?_
      rintro e w4 ⟨rfl, b4⟩
      have HB4 := hide (HB3.out.trans (b4.mono HB3.out.size))
      have H4 := hide (H.out.below HB4.out)
      have e5 : w4.cell? ⟨z.bp, 5, none⟩ = some (.int .i64 (pt : Int)) := cell_keep c5 HB4.out
      have f5 := H4.out.blk.frozen 5
      have H5 := hide (H4.out.set_ 5 (.int .i64 (pt : Int)))
      clear b4
      go_wp2_with fail
      go_ret
      refine ⟨by rw [HF.out]; rfl, z, rfl, ?_⟩
      rw [HI.out]
      have h9 := H5.out
      rw [HPT.out] at h9 ⊢
      exact YAt.out h9 HK.out.h0 HK.out.h6
    · have HI := hide (show insB s t = { s with L := s.L ++ charsOf t, tick := s.tick + 1 } from by unfold insB; rw [if_pos ⟨hf, hz⟩])
      have HPU := hide (fun (w1 : World) (hb : Below w.heap.size w w1) => yput_some (H.out.below hb) h6 HK.out.h0 t HT.out hf hz HTK.out)
      have hlen : s.L.length + 1 + lenS t ≤ 65537 := by
        unfold fitE at hf
        split at hf
        · cases hf
        · split at hf
          · cases hf
          · omega
      obtain ⟨n, hn⟩ : ∃ n, n = lenS t := ⟨_, rfl⟩
      have HLN := hide (fun (w1 : World) => (show Calls Tryz.prog 79 #[.string t] w1 fun e w' => e = .returned (.int .i64 (n : Int)) ∧ Below w1.heap.size w1 w' from hn ▸ reflen_any t w1 (by have := HT.out; omega)))
      have HN := hide hn
      have HLE := hide hlen
      have hn1 : (n : Int) ≤ 65537 := by omega
      rw [← HPT.out] at HPU
      clear hf hz h6 hn hlen
      go_enter Tryz.func56, Tryz.ntmps56
      go_wp2_with fail
      refine Calls.mono HSH.out ?_
      rintro e w1 ⟨rfl, b1⟩
      have HB1 := hide b1
      clear b1
      go_wp2_with fail
      refine Calls.mono (HFI.out w1 HB1.out) ?_
      rintro e w2 ⟨rfl, b2⟩
      have HB2 := hide (HB1.out.trans (b2.mono HB1.out.size))
      have d5 : w2.cell? ⟨z.bp, 5, none⟩ = some (.int .i64 (pt : Int)) := cell_keep c5 HB2.out
      clear b2
      go_wp2_with fail
      refine Calls.mono (HPU.out w2 HB2.out) ?_
      rintro e w3 ⟨rfl, z3, hz3, h3⟩
      have H3 := hide h3
      have HZ3 := hide hz3
      rw [← hz3]
      clear h3 hz3 HPU
      go_wp2_with fail
      refine Calls.mono (HLN.out w3) ?_
      rintro e w4 ⟨rfl, b4⟩
      have H4 := hide (H3.out.below b4)
      have e5 : w4.cell? ⟨z3.bp, 5, none⟩ = some (.int .i64 (pt : Int)) := (H4.out.blk.cell 5).trans (by rw [HPT.out]; rfl)
      have f5 := H4.out.blk.frozen 5
      have H5 := hide (H4.out.set_ 5 (.int .i64 ((pt : Int) + (n : Int))))
      clear b4
      go_wp2_with fail
      go_ret
      refine ⟨by rw [HF.out]; rfl, z3, HZ3.out, ?_⟩
      rw [HI.out]
      have hv1 : (charsOf t).length = n := by rw [← lenS_eq, HN.out]
      have hll : (s.L ++ charsOf t).length = s.L.length + n := by rw [List.length_append, hv1]
      refine YAt.out (s := { s with L := s.L ++ charsOf t, tick := s.tick + 1 }) ?_ (fun h9 => by cases h9) ?_
      · show YAt W _ z3 (s.L ++ charsOf t) (lgS (s.tick + 1) (s.L ++ charsOf t).length) (yD z3 ((s.L ++ charsOf t).length + 1) ((s.L ++ charsOf t).length + 1) (s.tick + 1) s.r) s.p s.q X
        rw [hll, show lgS (s.tick + 1) (s.L.length + n) = lg3 1 (s.L.length + n + 1) from rfl]
        have h9 := H5.out
        rw [HPT.out, ← HN.out, show s.L.length + 1 + n = s.L.length + n + 1 by omega, show ((s.L.length + 1 : Nat) : Int) + (n : Int) = ((s.L.length + n + 1 : Nat) : Int) by omega] at h9
        rw [HPT.out, show ((s.L.length + 1 : Nat) : Int) + (n : Int) = ((s.L.length + n + 1 : Nat) : Int) by omega]
        exact h9
      · show (s.L ++ charsOf t).length ≤ 65536
        rw [hll]
        have := HLE.out
        rw [← HN.out] at this
        omega
  · have HI := hide (show insB s t = s from insB_same (fun h9 => hf h9.1))
    obtain ⟨E, hE⟩ : ∃ E, E = fitE s.L t := ⟨_, rfl⟩
    rw [← hE] at HFI
    have HE := hide hE
    have z1 : (E == 0) = false := by rw [hE]; simpa using hf
    have z2 : decide (E = 0) = false := by rw [hE]; simpa using hf
    clear hf h6 hE
    go_enter Tryz.func56, Tryz.ntmps56
    go_wp2_with fail
    refine Calls.mono HSH.out ?_
    rintro e w1 ⟨rfl, b1⟩
    have HB1 := hide b1
    clear b1
    go_wp2_with fail
    refine Calls.mono (HFI.out w1 HB1.out) ?_
    rintro e w2 ⟨rfl, b2⟩
    have HB2 := hide (HB1.out.trans (b2.mono HB1.out.size))
    clear b2
    go_wp2_with fail
    go_ret
    refine ⟨by rw [HE.out]; rfl, z, rfl, ?_⟩
    rw [HI.out]
    exact YAt.out (H.out.below HB2.out) HK.out.h0 HK.out.h6
def YNew (W : World) (p q r : Int) (R : Heap) (e : Ending) (w' : World) : Prop := ∃ z : Yb, e = .returned (.pointer (some ⟨z.bp, 0, none⟩)) ∧ Own W w' (yHeap z ⟨[], 0, p, q, r⟩ ++ R) ∧ YOk z ⟨[], 0, p, q, r⟩
theorem new16 (w : World) : Calls Tryz.prog 111 #[] w fun e w' => e = .returned (.pointer (some ⟨w.heap.size, 0, none⟩)) ∧ w' = w.alloc (.cells #[.slice none 0 0, .int .i64 0] 216) := by
  go_enter Tryz.func111, Tryz.ntmps111
  go_wp2
  go_ret
  exact ⟨rfl, rfl⟩
theorem new17 (w : World) : Calls Tryz.prog 112 #[] w fun e w' => e = .returned (.pointer (some ⟨w.heap.size, 0, none⟩)) ∧ w' = w.alloc (.cells #[.slice none 0 0] 219) := by
  go_enter Tryz.func112, Tryz.ntmps112
  go_wp2
  go_ret
  exact ⟨rfl, rfl⟩
theorem new18 (p q : Int) (w : World) : Calls Tryz.prog 113 #[.int .i64 p, .int .i64 q] w fun e w' => e = .returned (.pointer (some ⟨w.heap.size, 0, none⟩)) ∧ w' = w.alloc (.cells #[.slice none 0 0, .int .i64 0, .int .i64 p, .int .i64 q] 222) := by
  go_enter Tryz.func113, Tryz.ntmps113
  go_wp2
  go_ret
  exact ⟨rfl, rfl⟩
set_option maxRecDepth 100000 in
set_option maxHeartbeats 4000000 in
theorem ynew_any (h : Own W w X) (p q r : Int) : Calls Tryz.prog 74 #[.int .i64 p, .int .i64 q, .int .i64 r] w (YNew W p q r X) := by
  have HT := hide (rnew_any h ⟨#[]⟩ (by decide))
  clear h
  go_enter Tryz.func74, Tryz.ntmps74
  go_wp2_with fail
  refine Calls.mono HT.out ?_
  rintro e w1 (⟨h9, _⟩ | ⟨_, tb, tv, rfl, h1⟩)
  · cases h9
  have h1' : RtAt W w1 tb tv [] X := h1
  have H1 := hide h1'
  clear h1 h1' HT
  go_wp2_with fail
  refine Calls.mono (rnew_ok H1.out.own 1048576 (by decide) (by decide)) ?_
  rintro e w2 ⟨rfl, h2⟩
  have H2 := hide h2
  obtain ⟨lb, hlb⟩ : ∃ q, q = w1.heap.size := ⟨_, rfl⟩
  rw [← hlb] at H2 ⊢
  clear h2 hlb
  go_wp2_with fail
  refine Calls.mono (new16 w2) ?_
  rintro e w3 ⟨rfl, hw3⟩
  have H3 := hide (show RefAt W w3 _ _ _ from hw3 ▸ H2.out.box 216 #[.slice none 0 0, .int .i64 0])
  obtain ⟨mb, hmb⟩ : ∃ q, q = w2.heap.size := ⟨_, rfl⟩
  rw [← hmb] at H3 ⊢
  clear hw3 hmb
  go_wp2_with fail
  refine Calls.mono (new17 w3) ?_
  rintro e w4 ⟨rfl, hw4⟩
  have H4 := hide (show RefAt W w4 _ _ _ from hw4 ▸ H3.out.box 219 #[.slice none 0 0])
  obtain ⟨pb, hpb⟩ : ∃ q, q = w3.heap.size := ⟨_, rfl⟩
  rw [← hpb] at H4 ⊢
  clear hw4 hpb
  go_wp2_with fail
  refine Calls.mono (new18 p q w4) ?_
  rintro e w5 ⟨rfl, hw5⟩
  have H5 := hide (show RefAt W w5 _ _ _ from hw5 ▸ H4.out.box 222 #[.slice none 0 0, .int .i64 0, .int .i64 p, .int .i64 q])
  obtain ⟨ob, hob⟩ : ∃ q, q = w4.heap.size := ⟨_, rfl⟩
  rw [← hob] at H5 ⊢
  clear hw5 hob
  have H6 := hide (H5.out.box 61 (ybD 1 1 0 r tb mb pb ob lb))
  go_wp2_with fail
  go_ret
  refine ⟨⟨w5.heap.size, tb, tv, mb, .slice none 0 0, pb, ob, .slice none 0 0, ⟨lb, .slice none 0 0, .slice none 0 0, []⟩⟩, rfl, ?_, ?_⟩
  · rw [yHeap_app]
    refine H6.out.own.perm ?_
    refine List.Perm.append_left _ (List.Perm.cons _ ?_)
    show List.Perm ((ob, Ast.cells 222 #[.slice none 0 0, .int .i64 0, .int .i64 p, .int .i64 q]) :: (pb, .cells 219 #[.slice none 0 0]) :: (mb, .cells 216 #[.slice none 0 0, .int .i64 0]) :: (rHeap tb tv [] ++ X)) ([(mb, Ast.cells 216 #[.slice none 0 0, .int .i64 0]), (pb, .cells 219 #[.slice none 0 0]), (ob, .cells 222 #[.slice none 0 0, .int .i64 0, .int .i64 p, .int .i64 q])] ++ (rHeap tb tv [] ++ X))
    classical
    rw [List.perm_iff_count]
    intro x
    simp only [List.count_append, List.count_cons, List.count_nil]
    omega
  · exact ⟨H6.out.ok, H1.out.ok, ⟨_, _, rfl⟩, ⟨_, _, rfl⟩, fun _ => rfl, by show 0 ≤ _; omega⟩
end
end Go.Proofs.YtnbhejbpofjamaaGreatDoor
namespace Go.Proofs.YtnbhejbpofjamaaGreatDoor
open Go.RowKit

structure Rn where
  id : Nat
  name : ByteArray
  b : Nat
def Rn.cells (e : Rn) : List Value := [.int .i64 (e.id : Int), .string e.name, .pointer (some ⟨e.b, 0, none⟩)]
structure Rst where
  l : List Rn
  nx : Nat
  cu : Nat
theorem rn_len (e : Rn) : e.cells.length = 3 := rfl
theorem rn_one (e : Rn) : ∀ u ∈ e.cells, u.oneCell' = true := by
  intro u hu
  simp only [Rn.cells, List.mem_cons, List.not_mem_nil, or_false] at hu
  rcases hu with rfl | rfl | rfl <;> rfl
def rsC (v : Value) (s : Rst) : Array Value := #[v, .int .i64 (s.nx : Int), .int .i64 (s.cu : Int), .int .i64 1, .int .i64 2, .int .i64 3]
def rsRow (v : Value) (l : List Rn) : Heap := rowOf 87 3 v l.length (rows Rn.cells l)
def rsHead (rb : Nat) (v : Value) (s : Rst) : Heap := (rb, .cells 84 (rsC v s)) :: rsRow v s.l
/-- The set's own blocks lie beside X. -/
structure RAt (W w : World) (rb : Nat) (v : Value) (s : Rst) (X : Heap) : Prop where
  own : Own W w (rsHead rb v s ++ X)
  ok : RowOk v s.l.length
def FindI (l : List Rn) (id : Int) (i : Int) : Prop := (i = -1 ∧ ∀ e ∈ l, (e.id : Int) ≠ id) ∨ ∃ (k : Nat) (e : Rn), i = (k : Int) ∧ l[k]? = some e ∧ (e.id : Int) = id
def FindN (l : List Rn) (n : ByteArray) (v : Value) : Prop := (v = .tuple #[.int .i64 0, .bool false] ∧ ∀ e ∈ l, e.name ≠ n) ∨ ∃ e ∈ l, e.name = n ∧ v = .tuple #[.int .i64 (e.id : Int), .bool true]
section
variable {W w w' : World} {rb : Nat} {v : Value} {s : Rst} {X Y : Heap}
theorem RAt.below (h : RAt W w rb v s X) (hb : Below w.heap.size w w') : RAt W w' rb v s X := ⟨h.own.below hb, h.ok⟩
theorem RAt.reX (h : RAt W w rb v s X) (ho : Own W w' (rsHead rb v s ++ Y)) : RAt W w' rb v s Y := ⟨ho, h.ok⟩
theorem RAt.blk (h : RAt W w rb v s X) : Blk w rb 84 (rsC v s) := h.own.blk (List.mem_cons_self ..)
theorem RAt.sl (h : RAt W w rb v s X) : Sl w 87 3 v s.l.length (rows Rn.cells s.l) := h.own.slOf (fun _ hx => List.mem_cons_of_mem _ (List.mem_append_left _ hx)) (rows_len rn_len _) h.ok
theorem RAt.cells (h : RAt W w rb v s X) : w.cell? ⟨rb, 0, none⟩ = some v ∧ w.cell? ⟨rb, 1, none⟩ = some (.int .i64 (s.nx : Int)) ∧ w.cell? ⟨rb, 2, none⟩ = some (.int .i64 (s.cu : Int)) := ⟨(h.blk.cell 0).trans rfl, (h.blk.cell 1).trans rfl, (h.blk.cell 2).trans rfl⟩
theorem rn_row {A : Option Addr} {n c : Nat} {l : List Rn} (h : Rd w (.slice A n c) 3 n (rows Rn.cells l)) {i : Nat} {e : Rn} (he : l[i]? = some e) (hi : i < n) :
    ∃ g off, A = some ⟨g, off, none⟩ ∧ w.cell? ⟨g, off + i * 3, none⟩ = some (.int .i64 (e.id : Int)) ∧ w.cell? ⟨g, off + i * 3 + 1, none⟩ = some (.string e.name) ∧ w.cell? ⟨g, off + i * 3 + 2, none⟩ = some (.pointer (some ⟨e.b, 0, none⟩)) := by
  obtain ⟨A', c', e1, _, h2⟩ := h
  obtain ⟨g, off, h3, h4⟩ := h2 (by omega)
  injection e1 with e2 _ _
  have r0 := h4 (i * 3 + 0) _ (by rw [rows_at rn_len _ i 0 e he (by omega)]; rfl)
  have r1 := h4 (i * 3 + 1) _ (by rw [rows_at rn_len _ i 1 e he (by omega)]; rfl)
  have r2 := h4 (i * 3 + 2) _ (by rw [rows_at rn_len _ i 2 e he (by omega)]; rfl)
  refine ⟨g, off, e2.trans h3, ?_, ?_, ?_⟩
  · simpa using r0
  · rw [Nat.add_assoc]; exact r1
  · rw [Nat.add_assoc]; exact r2
set_option maxRecDepth 100000 in
set_option maxHeartbeats 4000000 in
theorem rfindid_any (h : RAt W w rb v s X) (id : Int) (hl : s.l.length ≤ 1000) : Calls Tryz.prog 59 #[.pointer (some ⟨rb, 0, none⟩), .int .i64 id] w fun e w' => ∃ i, e = .returned (.int .i64 i) ∧ FindI s.l id i ∧ w = w' := by
  obtain ⟨c0, _, _⟩ := h.cells
  obtain ⟨A, c, hv, _, _⟩ := h.sl.form
  have HRD := hide h.sl.rd
  obtain ⟨n, hn⟩ : ∃ n, n = s.l.length := ⟨_, rfl⟩
  rw [← hn] at hv HRD
  subst hv
  have HN := hide hn
  have hn1 : (n : Int) ≤ 1000 := by omega
  clear h hn hl
  go_enter Tryz.func59, Tryz.ntmps59
  go_wp2_with fail
  go_loopw [5] (fun iv wr => ∃ k : Nat, k ≤ n ∧ iv = .int .i64 (k : Int) ∧ wr = w ∧ ∀ e ∈ s.l.take k, (e.id : Int) ≠ id) (fun iv _ => n - (intOf iv).toNat)
  case atStart => exact ⟨0, Nat.zero_le _, rfl, rfl, fun e he => by simp at he⟩
  case round =>
    obtain ⟨k, hk, rfl, rfl, hall⟩ := hrel
    have HALL := hide hall
    have HK := hide hk
    clear hall
    by_cases hlt : k < n
    · have y1 : decide (k < n) = true := by simpa using hlt
      have y2 : decide ((k : Int) < (n : Int)) = true := by simp; omega
      have y3 : (k : Int) < (n : Int) := by omega
      obtain ⟨e, he⟩ : ∃ e, s.l[k]? = some e := ⟨_, List.getElem?_eq_getElem (by rw [← HN.out]; exact hlt)⟩
      obtain ⟨g, off, rfl, r0, r1, r2⟩ := rn_row HRD.out he hlt
      have HE := hide he
      have HLT := hide hlt
      clear hk he hlt
      by_cases hid : (e.id : Int) = id
      · have z1 : ((e.id : Int) == id) = true := by simpa using hid
        have z2 : decide ((e.id : Int) = id) = true := by simpa using hid
        have HID := hide hid
        clear hid
        go_wp2_with fail
        go_ret
        exact ⟨_, rfl, .inr ⟨k, e, rfl, HE.out, HID.out⟩, rfl⟩
      · have z1 : ((e.id : Int) == id) = false := by simpa using hid
        have z2 : decide ((e.id : Int) = id) = false := by simpa using hid
        have HID := hide hid
        clear hid
        go_wp2_with fail
        go_roundw
        case rel =>
          refine ⟨k + 1, HLT.out, by go_num, by first | rfl | trivial, fun x hx => ?_⟩
          rw [List.take_add_one, HE.out] at hx
          rcases List.mem_append.1 hx with hx | hx
          · exact HALL.out x hx
          · obtain rfl : x = e := by simpa using hx
            exact HID.out
        case measure => have := HLT.out; simp [intOf]; omega
    · have y1 : decide (k < n) = false := by simpa using hlt
      have y2 : decide ((k : Int) < (n : Int)) = false := by simp; omega
      obtain rfl : k = n := by omega
      clear hk hlt
      go_wp2_with fail
      go_ret
      exact ⟨_, rfl, .inl ⟨by first | rfl | trivial, fun x hx => HALL.out x (by rw [HN.out, List.take_length]; exact hx)⟩, rfl⟩
set_option maxRecDepth 100000 in
set_option maxHeartbeats 4000000 in
theorem rfindn_any (h : RAt W w rb v s X) (nm : ByteArray) (hl : s.l.length ≤ 1000) : Calls Tryz.prog 30 #[.pointer (some ⟨rb, 0, none⟩), .string nm] w fun e w' => ∃ u, e = .returned u ∧ FindN s.l nm u ∧ w = w' := by
  obtain ⟨c0, _, _⟩ := h.cells
  obtain ⟨A, c, hv, _, _⟩ := h.sl.form
  have HRD := hide h.sl.rd
  obtain ⟨n, hn⟩ : ∃ n, n = s.l.length := ⟨_, rfl⟩
  rw [← hn] at hv HRD
  subst hv
  have HN := hide hn
  have hn1 : (n : Int) ≤ 1000 := by omega
  clear h hn hl
  go_enter Tryz.func30, Tryz.ntmps30
  go_wp2_with fail
  go_loopw [6] (fun iv wr => ∃ k : Nat, k ≤ n ∧ iv = .int .i64 (k : Int) ∧ wr = w ∧ ∀ e ∈ s.l.take k, e.name ≠ nm) (fun iv _ => n - (intOf iv).toNat)
  case atStart => exact ⟨0, Nat.zero_le _, rfl, rfl, fun e he => by simp at he⟩
  case round =>
    obtain ⟨k, hk, rfl, rfl, hall⟩ := hrel
    have HALL := hide hall
    have HK := hide hk
    clear hall
    by_cases hlt : k < n
    · have y1 : decide (k < n) = true := by simpa using hlt
      have y2 : decide ((k : Int) < (n : Int)) = true := by simp; omega
      have y3 : (k : Int) < (n : Int) := by omega
      obtain ⟨e, he⟩ : ∃ e, s.l[k]? = some e := ⟨_, List.getElem?_eq_getElem (by rw [← HN.out]; exact hlt)⟩
      obtain ⟨g, off, rfl, r0, r1, r2⟩ := rn_row HRD.out he hlt
      have HE := hide he
      have HLT := hide hlt
      clear hk he hlt
      by_cases hid : e.name = nm
      · have z1 : (e.name.toList == nm.toList) = true := (Lib.bytes_beq_iff _ _).2 hid
        have HID := hide hid
        clear hid
        go_wp2_with fail
        go_ret2
        exact ⟨_, rfl, .inr ⟨e, List.mem_of_getElem? HE.out, HID.out, rfl⟩, rfl⟩
      · have z1 : (e.name.toList == nm.toList) = false := (Lib.bytes_beq_false_iff _ _).2 hid
        have HID := hide hid
        clear hid
        go_wp2_with fail
        go_roundw
        case rel =>
          refine ⟨k + 1, HLT.out, by go_num, by first | rfl | trivial, fun x hx => ?_⟩
          rw [List.take_add_one, HE.out] at hx
          rcases List.mem_append.1 hx with hx | hx
          · exact HALL.out x hx
          · obtain rfl : x = e := by simpa using hx
            exact HID.out
        case measure => have := HLT.out; simp [intOf]; omega
    · have y1 : decide (k < n) = false := by simpa using hlt
      have y2 : decide ((k : Int) < (n : Int)) = false := by simp; omega
      obtain rfl : k = n := by omega
      clear hk hlt
      go_wp2_with fail
      go_ret2
      exact ⟨_, rfl, .inl ⟨by first | rfl | trivial, fun x hx => HALL.out x (by rw [HN.out, List.take_length]; exact hx)⟩, rfl⟩
set_option maxRecDepth 100000 in
set_option maxHeartbeats 4000000 in
theorem rname_any (h : RAt W w rb v s X) (id : Int) (hl : s.l.length ≤ 1000) : Calls Tryz.prog 28 #[.pointer (some ⟨rb, 0, none⟩), .int .i64 id] w fun e w' => w = w' ∧ ((e = .returned (.tuple #[.string ⟨#[]⟩, .bool false]) ∧ ∀ e ∈ s.l, (e.id : Int) ≠ id) ∨ ∃ x ∈ s.l, (x.id : Int) = id ∧ e = .returned (.tuple #[.string x.name, .bool true])) := by
  obtain ⟨c0, _, _⟩ := h.cells
  obtain ⟨A, c, hv, _, _⟩ := h.sl.form
  have HRD := hide h.sl.rd
  have HF := hide (rfindid_any h id hl)
  obtain ⟨n, hn⟩ : ∃ n, n = s.l.length := ⟨_, rfl⟩
  rw [← hn] at hv HRD
  subst hv
  have HN := hide hn
  have hn1 : (n : Int) ≤ 1000 := by omega
  clear h hn hl
  go_enter Tryz.func28, Tryz.ntmps28
  go_wp2_with fail
  refine Calls.mono HF.out ?_
  rintro e w1 ⟨i, rfl, hi, rfl⟩
  rcases hi with ⟨rfl, hno⟩ | ⟨k, x, rfl, hx, hxi⟩
  · have HNO := hide hno
    clear hno
    go_wp2_with fail
    go_ret2
    exact ⟨rfl, .inl ⟨rfl, HNO.out⟩⟩
  · have hlt : k < n := by rw [HN.out]; exact (List.getElem?_eq_some_iff.1 hx).1
    obtain ⟨g, off, rfl, r0, r1, r2⟩ := rn_row HRD.out hx hlt
    have HX := hide hx
    have HXI := hide hxi
    have y1 : decide ((k : Int) < 0) = false := by simp
    have y3 : (k : Int) < (n : Int) := by omega
    clear hx hxi
    go_wp2_with fail
    go_ret2
    exact ⟨rfl, .inr ⟨x, List.mem_of_getElem? HX.out, HXI.out, rfl⟩⟩
set_option maxRecDepth 100000 in
set_option maxHeartbeats 4000000 in
theorem rget_any26 (h : RAt W w rb v s X) (id : Int) (hl : s.l.length ≤ 1000) : Calls Tryz.prog 31 #[.pointer (some ⟨rb, 0, none⟩), .int .i64 id] w fun e w' => w = w' ∧ ((e = .returned (.pointer none) ∧ ∀ e ∈ s.l, (e.id : Int) ≠ id) ∨ ∃ x ∈ s.l, (x.id : Int) = id ∧ e = .returned (.pointer (some ⟨x.b, 0, none⟩))) := by
  obtain ⟨c0, _, _⟩ := h.cells
  obtain ⟨A, c, hv, _, _⟩ := h.sl.form
  have HRD := hide h.sl.rd
  have HF := hide (rfindid_any h id hl)
  obtain ⟨n, hn⟩ : ∃ n, n = s.l.length := ⟨_, rfl⟩
  rw [← hn] at hv HRD
  subst hv
  have HN := hide hn
  have hn1 : (n : Int) ≤ 1000 := by omega
  clear h hn hl
  go_enter Tryz.func31, Tryz.ntmps31
  go_wp2_with fail
  refine Calls.mono HF.out ?_
  rintro e w1 ⟨i, rfl, hi, rfl⟩
  rcases hi with ⟨rfl, hno⟩ | ⟨k, x, rfl, hx, hxi⟩
  · have HNO := hide hno
    clear hno
    go_wp2_with fail
    go_ret
    exact ⟨rfl, .inl ⟨rfl, HNO.out⟩⟩
  · have hlt : k < n := by rw [HN.out]; exact (List.getElem?_eq_some_iff.1 hx).1
    obtain ⟨g, off, rfl, r0, r1, r2⟩ := rn_row HRD.out hx hlt
    have HX := hide hx
    have HXI := hide hxi
    have y1 : decide ((k : Int) < 0) = false := by simp
    have y3 : (k : Int) < (n : Int) := by omega
    clear hx hxi
    go_wp2_with fail
    go_ret
    exact ⟨rfl, .inr ⟨x, List.mem_of_getElem? HX.out, HXI.out, rfl⟩⟩
theorem rcurrent_any (h : RAt W w rb v s X) : Calls Tryz.prog 25 #[.pointer (some ⟨rb, 0, none⟩)] w fun e w' => e = .returned (.int .i64 (s.cu : Int)) ∧ w = w' := by
  obtain ⟨_, _, c2⟩ := h.cells
  clear h
  go_enter Tryz.func25, Tryz.ntmps25
  go_wp2_with fail
  go_ret
  exact ⟨rfl, rfl⟩

set_option maxRecDepth 100000 in
set_option maxHeartbeats 4000000 in
theorem rcheck26_any (n : ByteArray) (w : World) (hs : n.size ≤ 1000000) : Calls Tryz.prog 60 #[.string n] w fun e w' => e = .returned (.int .i64 (chkE n)) ∧ Below w.heap.size w w' := by
  have HV := hide (refvalid_any n w (by omega))
  have HL := hide (fun w' (_hb : Below w.heap.size w w') => reflen_any n w' (by omega))
  have HS := hide hs
  clear hs
  cases hv : validS n with
  | false =>
    have HE := hide (show chkE n = 5 by unfold chkE; rw [if_pos hv])
    rw [hv] at HV
    clear hv HL
    go_enter Tryz.func60, Tryz.ntmps60
    go_wp2_with fail
    refine (Calls.mono HV.out) ?_
    rintro e w1 ⟨rfl, b1⟩
    go_wp2_with fail
    go_ret
    exact ⟨by rw [HE.out]; rfl, b1⟩
  | true =>
    rw [hv] at HV
    by_cases h0 : n.size = 0
    · have HE := hide (show chkE n = 17 by unfold chkE; rw [if_neg (by rw [hv]; simp), if_pos h0])
      obtain rfl : n = ⟨#[]⟩ := by
        cases n with
        | mk d => exact congrArg ByteArray.mk (Array.eq_empty_of_size_eq_zero h0)
      clear hv HL h0
      go_enter Tryz.func60, Tryz.ntmps60
      go_wp2_with fail
      refine (Calls.mono HV.out) ?_
      rintro e w1 ⟨rfl, b1⟩
      go_wp2_with fail
      go_ret
      exact ⟨by rw [HE.out]; rfl, b1⟩
    · have y1 : n.toList.isEmpty = false := by
        cases he : n.toList.isEmpty with
        | false => rfl
        | true =>
          rw [List.isEmpty_iff] at he
          have h9 : n = ⟨#[]⟩ := (Lib.bytes_beq_iff _ _).1 (by rw [he]; kernel_rfl)
          exact absurd (by rw [h9]; rfl) h0
      by_cases h1 : 200 < lenS n
      · have HE := hide (show chkE n = 4 by unfold chkE; rw [if_neg (by rw [hv]; simp), if_neg h0, if_pos h1])
        have y2 : decide ((200 : Int) < (lenS n : Int)) = true := by simp; omega
        clear hv h0 h1
        go_enter Tryz.func60, Tryz.ntmps60
        go_wp2_with fail
        refine (Calls.mono HV.out) ?_
        rintro e w1 ⟨rfl, b1⟩
        have HB1 := hide b1
        clear b1
        go_wp2_with fail
        refine (Calls.mono (HL.out _ HB1.out)) ?_
        rintro e w2 ⟨rfl, b2⟩
        go_wp2_with fail
        go_ret
        exact ⟨by rw [HE.out]; rfl, HB1.out.trans (b2.mono HB1.out.size)⟩
      · have HE := hide (show chkE n = 0 by unfold chkE; rw [if_neg (by rw [hv]; simp), if_neg h0, if_neg h1])
        have y2 : decide ((200 : Int) < (lenS n : Int)) = false := by simp; omega
        clear hv h0 h1
        go_enter Tryz.func60, Tryz.ntmps60
        go_wp2_with fail
        refine (Calls.mono HV.out) ?_
        rintro e w1 ⟨rfl, b1⟩
        have HB1 := hide b1
        clear b1
        go_wp2_with fail
        refine (Calls.mono (HL.out _ HB1.out)) ?_
        rintro e w2 ⟨rfl, b2⟩
        go_wp2_with fail
        go_ret
        exact ⟨by rw [HE.out]; rfl, HB1.out.trans (b2.mono HB1.out.size)⟩
end
end Go.Proofs.YtnbhejbpofjamaaGreatDoor
namespace Go.Proofs.YtnbhejbpofjamaaGreatDoor
open Go.RowKit

/-- The first that is not c. -/
def othL (l : List Nat) (c : Nat) : Nat := (l.find? fun k => decide (k ≠ c)).getD c
theorem othL_miss {l : List Nat} {c : Nat} (h : ∀ y ∈ l, y = c) : othL l c = c := othS_miss (s := ⟨[], l, c, 0, 0, 0, 0⟩) h
theorem othL_hit {l : List Nat} {c k x : Nat} (h : l[k]? = some x) (hx : x ≠ c) (h1 : ∀ y ∈ l.take k, y = c) : othL l c = x := othS_hit (s := ⟨[], l, c, 0, 0, 0, 0⟩) h hx h1
def hasR (l : List Rn) (n : ByteArray) : Bool := l.any fun e => decide (e.name = n)
theorem hasR_true {l : List Rn} {n : ByteArray} : hasR l n = true ↔ ∃ x ∈ l, x.name = n := by simp [hasR]
theorem hasR_false {l : List Rn} {n : ByteArray} : hasR l n = false ↔ ∀ x ∈ l, x.name ≠ n := by simp [hasR]
section
variable {W w w' : World} {rb : Nat} {v : Value} {s : Rst} {X Y : Heap}
set_option maxRecDepth 100000 in
set_option maxHeartbeats 4000000 in
theorem rother_any (h : RAt W w rb v s X) (hl : s.l.length ≤ 1000) : Calls Tryz.prog 27 #[.pointer (some ⟨rb, 0, none⟩)] w fun e w' => e = .returned (.int .i64 (othL (s.l.map Rn.id) s.cu : Int)) ∧ ∃ q, w' = w.drewN q := by
  obtain ⟨A, c, hv, _, _⟩ := h.sl.form
  have HRD := hide (fun q => (h.below (below_drewN (Below.refl _ _) q)).sl.rd)
  have HCC := hide (fun q => (h.below (below_drewN (Below.refl _ _) q)).cells)
  obtain ⟨n, hn⟩ : ∃ n, n = s.l.length := ⟨_, rfl⟩
  rw [← hn] at hv HRD
  subst hv
  have HN := hide hn
  have hn1 : (n : Int) ≤ 1000 := by omega
  clear h hn hl
  go_enter Tryz.func27, Tryz.ntmps27
  go_wp2_with fail
  go_loopw [3] (fun iv wr => ∃ k q : Nat, k ≤ n ∧ iv = .int .i64 (k : Int) ∧ wr = w.drewN q ∧ ∀ y ∈ (s.l.map Rn.id).take k, y = s.cu) (fun iv _ => n - (intOf iv).toNat)
  case atStart => exact ⟨0, 0, Nat.zero_le _, rfl, rfl, fun e he => by simp at he⟩
  case round =>
    obtain ⟨k, q, hk, rfl, hwr, hall⟩ := hrel
    obtain ⟨c0, c1, c2⟩ := HCC.out q
    have HRD2 := hide (HRD.out q)
    rw [← hwr] at c0 c1 c2 HRD2
    have HWR := hide hwr
    have HALL := hide hall
    have HK := hide hk
    clear hall hwr c1
    by_cases hlt : k < n
    · have y1 : decide (k < n) = true := by simpa using hlt
      have y2 : decide ((k : Int) < (n : Int)) = true := by simp; omega
      have y3 : (k : Int) < (n : Int) := by omega
      obtain ⟨e, he⟩ : ∃ e, s.l[k]? = some e := ⟨_, List.getElem?_eq_getElem (by rw [← HN.out]; exact hlt)⟩
      obtain ⟨g, off, rfl, r0, r1, r2⟩ := rn_row HRD2.out he hlt
      have HID := hide (show (s.l.map Rn.id)[k]? = some e.id by rw [List.getElem?_map, he]; rfl)
      have HLT := hide hlt
      clear hk he hlt
      by_cases hid : e.id = s.cu
      · have z1 : ((e.id : Int) != (s.cu : Int)) = false := by simp [hid]
        have z2 : decide ((e.id : Int) = (s.cu : Int)) = true := by simp [hid]
        have z3 : decide (e.id = s.cu) = true := by simpa using hid
        have HE := hide hid
        clear hid
        go_upto_region 4 with fail
        go_quiet (fail)
        go_wp2_with fail
        go_roundw
        case rel =>
          refine ⟨k + 1, q + nq, HLT.out, by go_num, by rw [HWR.out, World.drewN_drewN], fun x hx => ?_⟩
          rw [List.take_add_one, HID.out] at hx
          rcases List.mem_append.1 hx with hx | hx
          · exact HALL.out x hx
          · obtain rfl : x = e.id := by simpa using hx
            exact HE.out
        case measure => have := HLT.out; simp [intOf]; omega
      · have z1 : ((e.id : Int) != (s.cu : Int)) = true := by simp; omega
        have z2 : decide ((e.id : Int) = (s.cu : Int)) = false := by simp; omega
        have z3 : decide (e.id = s.cu) = false := by simpa using hid
        have HE := hide (othL_hit HID.out hid HALL.out)
        have HRDN := hide (fun m => (show (wr.drewN m).cell? ⟨rb, 0, none⟩ = some (.slice (some ⟨g, off, none⟩) n c) ∧ (wr.drewN m).cell? ⟨g, off + k * 3, none⟩ = some (.int .i64 (e.id : Int)) from ⟨c0, r0⟩))
        clear hid
        go_upto_region 4 with fail
        go_quiet (fail)
        obtain ⟨d0, d1⟩ := HRDN.out nq
        go_wp2_with fail
        go_ret
        exact ⟨by rw [HE.out]; rfl, q + nq, by rw [HWR.out, World.drewN_drewN]⟩
    · have y1 : decide (k < n) = false := by simpa using hlt
      have y2 : decide ((k : Int) < (n : Int)) = false := by simp; omega
      obtain rfl : k = n := by omega
      have HE := hide (show othL (s.l.map Rn.id) s.cu = s.cu from othL_miss (fun y hy => HALL.out y (by rw [HN.out, ← List.length_map (f := Rn.id), List.take_length]; exact hy)))
      clear hk hlt
      go_wp2_with fail
      go_ret
      exact ⟨by rw [HE.out]; rfl, q, HWR.out⟩
set_option maxRecDepth 100000 in
set_option maxHeartbeats 4000000 in
theorem rlist_any26 (h : RAt W w rb v s X) (hl : s.l.length ≤ 1000) : Calls Tryz.prog 24 #[.pointer (some ⟨rb, 0, none⟩)] w (ListO w (s.l.map Rn.id)) := by
  obtain ⟨A, c, hv, _, _⟩ := h.sl.form
  have HH := hide (fun (y : World) (hb : Below w.heap.size w y) => (h.below hb).cells)
  have HRD := hide (fun (y : World) (hb : Below w.heap.size w y) => (h.below hb).sl.rd)
  obtain ⟨n, hn⟩ : ∃ n, n = s.l.length := ⟨_, rfl⟩
  rw [← hn] at hv HRD
  subst hv
  have HN := hide hn
  have hn1 : (n : Int) ≤ 1000 := by omega
  obtain ⟨i0, hi, hi1, hi2, hi3⟩ := info_parts info_int
  have HJ := hide hi
  have HJ1 := hide hi1
  have HJ2 := hide hi2
  have HJ3 := hide hi3
  clear h hn hl hi hi1 hi2 hi3
  go_enter Tryz.func24, Tryz.ntmps24
  go_wp2_with fail
  go_loopw [3, 4] (fun ov iv wr => ∃ (k : Nat) (B : Option Addr) (m d : Nat), k ≤ n ∧ iv = .int .i64 (k : Int) ∧ ov = .slice B m d ∧ m = k ∧ Sl wr 3 1 (.slice B m d) m (ints ((s.l.map Rn.id).take k)) ∧ Below w.heap.size w wr ∧ (∀ g, (Value.slice B m d).ownBlock = some g → w.heap.size ≤ g)) (fun _ iv _ => n - (intOf iv).toNat)
  case atStart => exact ⟨0, none, 0, 0, Nat.zero_le _, rfl, rfl, rfl, Sl.nil _ _ _, Below.refl _ _, fun g hg => by simp [Value.ownBlock] at hg⟩
  case round =>
    obtain ⟨k, B, m, d, hk, rfl, rfl, hm, hs, hb, hf⟩ := hrel
    obtain ⟨c0, _, _⟩ := HH.out wr hb
    have HS := hide hs
    have HB := hide hb
    have HF := hide hf
    have HM := hide hm
    by_cases hlt : k < n
    · have y1 : decide (k < n) = true := by simpa using hlt
      have y2 : decide ((k : Int) < (n : Int)) = true := by simp; omega
      have y3 : (k : Int) < (n : Int) := by omega
      obtain ⟨e, he⟩ : ∃ e, s.l[k]? = some e := ⟨_, List.getElem?_eq_getElem (by rw [← HN.out]; exact hlt)⟩
      obtain ⟨g, off, rfl, r0, r1, r2⟩ := rn_row (HRD.out wr hb) he hlt
      have HID := hide (show ints ((s.l.map Rn.id).take (k + 1)) = ints ((s.l.map Rn.id).take k) ++ [.int .i64 (e.id : Int)] by rw [List.take_add_one, List.getElem?_map, he, ← ints_snoc]; rfl)
      have HLT := hide hlt
      have HS2 := hide (hs.alloc (.cells #[.int .i64 (e.id : Int)] 3))
      clear hk he hlt hs hb hf hm
      go_wp2_with (at_builtin; refine wpList_append_sl rfl (.tmp 14) (.tmp 23) 32 rfl 3 i0 (.int .i64 0) 1 8 Tryz.underlying32 HJ.out HJ1.out HJ2.out HJ3.out rfl _ m (ints ((s.l.map Rn.id).take k)) rfl HS2.out _ rfl 1 [_] (rd_one _ _ _) ?one ?b1 ?b2 ?_)
      case one => intro u hu; rcases List.mem_singleton.1 hu with rfl; rfl
      case b1 => have := HM.out; have := HLT.out; unfold maxLen; omega
      case b2 => have := HM.out; have := HLT.out; omega
      intro v8 w8 s8 o8 b8
      obtain ⟨B8, d8, rfl, _, _⟩ := Sl.form s8
      have HS8 := hide (show Sl w8 3 1 (.slice B8 (m + 1) d8) (m + 1) (ints ((s.l.map Rn.id).take (k + 1))) from by rw [HID.out]; exact s8)
      have HB8 := hide (show Below w.heap.size w w8 from (HB.out.alloc HB.out.size _).trans (o8.below (HB.out.alloc HB.out.size (.cells #[.int .i64 (e.id : Int)] 3)).size fun i hi => HF.out i hi))
      have HF8 := hide (show ∀ g, (Value.slice B8 (m + 1) d8).ownBlock = some g → w.heap.size ≤ g from fun g hg => by
        rcases b8 with h | h
        · exact HF.out g (by rw [← h]; exact hg)
        · rw [h] at hg
          have := HB.out.size
          simp at hg
          omega)
      clear s8 o8 b8
      go_wp2_with fail
      go_roundw
      case rel => exact ⟨k + 1, B8, m + 1, d8, HLT.out, by go_num, rfl, by have := HM.out; omega, HS8.out, HB8.out, HF8.out⟩
      case measure => have := HLT.out; simp [intOf]; omega
    · have y1 : decide (k < n) = false := by simpa using hlt
      have y2 : decide ((k : Int) < (n : Int)) = false := by simp; omega
      obtain rfl : k = n := by omega
      clear hk hlt hs hb hf hm
      go_wp2_with fail
      go_ret
      refine ⟨_, rfl, ?_, HF.out, HB.out⟩
      have h9 := HS.out
      rw [List.take_of_length_le (by rw [List.length_map, HN.out]; exact Nat.le_refl _)] at h9
      unfold IntSl
      rw [show (s.l.map Rn.id).length = m by rw [List.length_map, ← HN.out, HM.out]]
      exact h9
theorem renter_any (h : RAt W w rb v s X) (id : Int) (hl : s.l.length ≤ 1000) : Calls Tryz.prog 53 #[.pointer (some ⟨rb, 0, none⟩), .int .i64 id] w fun e w' => (e = .returned (.int .i64 8) ∧ (∀ x ∈ s.l, (x.id : Int) ≠ id) ∧ RAt W w' rb v s X) ∨ ∃ x ∈ s.l, (x.id : Int) = id ∧ e = .returned (.int .i64 0) ∧ RAt W w' rb v { s with cu := x.id } X := by
  obtain ⟨_, _, c2⟩ := h.cells
  have f2 := h.blk.frozen 2
  have HF := hide (rfindid_any h id hl)
  have H := hide h
  have HS := hide (fun (x : Rn) => (show RAt W (w.setCell ⟨rb, 2, none⟩ (.int .i64 (x.id : Int))) rb v { s with cu := x.id } X from ⟨Own.setCell h.own 2 (.int .i64 (x.id : Int)), h.ok⟩))
  clear h hl
  go_enter Tryz.func53, Tryz.ntmps53
  go_wp2_with fail
  refine Calls.mono HF.out ?_
  rintro e w1 ⟨i, rfl, hi, rfl⟩
  rcases hi with ⟨rfl, hno⟩ | ⟨k, x, rfl, hx, rfl⟩
  · have HNO := hide hno
    clear hno
    go_wp2_with fail
    go_ret
    exact .inl ⟨rfl, HNO.out, H.out⟩
  · have HX := hide hx
    have y1 : decide ((k : Int) < 0) = false := by simp
    clear hx
    go_wp2_with fail
    go_ret
    exact .inr ⟨x, List.mem_of_getElem? HX.out, rfl, rfl, HS.out x⟩
end
set_option maxRecDepth 100000 in
set_option maxHeartbeats 4000000 in
theorem digits_any : ∀ (k : Nat) (_ : k < 1000) (w : World), Calls Tryz.prog 61 #[.int .i64 (k : Int)] w fun e w' => e = .returned (.string ⟨(Lib.decDigits k).toArray⟩) ∧ Below w.heap.size w w' := by
  intro k
  induction k using Nat.strongRecOn with
  | _ k ih =>
    intro hk w
    by_cases h10 : k < 10
    · have z1 : decide ((k : Int) < 10) = true := by simp; omega
      have z2 : decide (k < 10) = true := by simpa using h10
      have HD := hide (show Lib.decDigits k = [byt (48 + k)] from Lib.decDigits_one h10)
      have hs := Sl.new w 5 1 #[.int .u8 (48 + (k : Int))] 1 1 (Nat.le_refl _) (by simp [maxLen]) (by simp)
      have hs2 : Sl (w.alloc (.cells #[.int .u8 (48 + (k : Int))] 5)) 5 1 (.slice (some ⟨w.heap.size, 0, none⟩) 1 1) [byt (48 + k)].length (u8s [byt (48 + k)]) := by
        have e : u8s [byt (48 + k)] = [.int .u8 (48 + (k : Int))] := by
          show [Value.int .u8 ((byt (48 + k)).toNat : Int)] = _
          rw [byt_nat (by omega)]
          congr 2
        rw [e]
        simpa using hs
      have hcv := conv_str hs2
      have hk9 : (k : Int) < 10 := by omega
      have hw8 : IntKind.u8.wrap (48 + (k : Int)) = 48 + (k : Int) := by
        unfold IntKind.wrap
        simp [IntKind.signed, IntKind.bits]
        omega
      have HB := hide ((Below.refl _ w).alloc (Nat.le_refl _) (.cells #[.int .u8 (48 + (k : Int))] 5))
      clear ih hs hs2
      go_enter Tryz.func61, Tryz.ntmps61
      go_wp2_with fail
      go_ret
      exact ⟨by rw [HD.out]; rfl, HB.out⟩
    · have z1 : decide ((k : Int) < 10) = false := by simp; omega
      have z2 : decide (k < 10) = false := by simpa using h10
      obtain ⟨a, ha⟩ : ∃ a, a = k / 10 := ⟨_, rfl⟩
      obtain ⟨b, hb⟩ : ∃ b, b = k % 10 := ⟨_, rfl⟩
      have HD := hide (show Lib.decDigits k = Lib.decDigits a ++ Lib.decDigits b from by
        rw [Lib.decDigits, dif_neg h10, ha, hb, Lib.decDigits_one (Nat.mod_lt _ (by omega))])
      have HA := hide (ih a (by omega) (by omega))
      have HB := hide (ih b (by omega) (by omega))
      have e1 : (k : Int) / 10 = (a : Int) := by omega
      have e2 : (k : Int) % 10 = (b : Int) := by omega
      have e3 : (k : Int).tdiv 10 = (a : Int) := by rw [Int.tdiv_eq_ediv_of_nonneg (by omega)]; exact e1
      have e4 : (k : Int).tmod 10 = (b : Int) := by rw [Int.tmod_eq_emod_of_nonneg (by omega)]; exact e2
      obtain ⟨da, hda⟩ : ∃ da : ByteArray, da = ⟨(Lib.decDigits a).toArray⟩ := ⟨_, rfl⟩
      obtain ⟨db, hdb⟩ : ∃ db : ByteArray, db = ⟨(Lib.decDigits b).toArray⟩ := ⟨_, rfl⟩
      have hsa : da.size ≤ 3 := by
        have := dec_len (u := a) (by omega)
        rw [hda]
        show (Lib.decDigits a).toArray.size ≤ 3
        simpa using this
      have hsb : db.size ≤ 3 := by
        have := dec_len (u := b) (by omega)
        rw [hdb]
        show (Lib.decDigits b).toArray.size ≤ 3
        simpa using this
      rw [← hda] at HA
      rw [← hdb] at HB
      have HDD := hide (show da ++ db = ⟨(Lib.decDigits k).toArray⟩ from by
        have e : (da ++ db).data = (Lib.decDigits k).toArray := by
          rw [ByteArray.data_append, hda, hdb, HD.out]
          simp
        cases h1 : da ++ db with
        | mk d => rw [h1] at e; exact congrArg ByteArray.mk e)
      have hz1 : da.size + db.size ≤ 9223372036854775807 := by omega
      clear ih ha hb h10 hda hdb HD
      go_enter Tryz.func61, Tryz.ntmps61
      go_wp2_with fail
      refine Calls.mono (HA.out w) ?_
      rintro e w1 ⟨rfl, b1⟩
      have HB1 := hide b1
      clear b1
      go_wp2_with fail
      refine Calls.mono (HB.out w1) ?_
      rintro e w2 ⟨rfl, b2⟩
      have HB2 := hide (HB1.out.trans (b2.mono HB1.out.size))
      clear b2
      go_wp2_with fail
      go_ret
      exact ⟨by rw [← HDD.out]; rfl, HB2.out⟩
section
variable {W w w' : World} {rb : Nat} {v : Value} {s : Rst} {X Y : Heap}
def UniR (l : List Rn) (n : ByteArray) (w : World) (e : Ending) (w' : World) : Prop :=
  Below w.heap.size w w' ∧ (chkE n ≠ 0 → e = .returned (.tuple #[.string ⟨#[]⟩, .int .i64 (chkE n)])) ∧
  (chkE n = 0 → ∃ k, (∀ j, j < k → hasR l (nmB n j) = true) ∧ hasR l (nmB n k) = false ∧ e = .returned (.tuple #[.string (nmB n k), .int .i64 0]))
theorem usedR_le {l : List Rn} {n : ByteArray} {k : Nat} (h : ∀ j, j < k → hasR l (nmB n j) = true) : k ≤ l.length := by
  have := taken_le (A := l.map (·.name)) (s := n) (k := k) (fun j hj => by
    obtain ⟨x, hx, e⟩ := hasR_true.1 (h j hj)
    exact List.mem_map.2 ⟨x, hx, e⟩)
  simpa using this
set_option maxRecDepth 100000 in
set_option maxHeartbeats 4000000 in
theorem runique_any (h : RAt W w rb v s X) (hm : s.l.length ≤ 500) (n : ByteArray) (hs : n.size < 1000000) :
    Calls Tryz.prog 29 #[.pointer (some ⟨rb, 0, none⟩), .string n] w (UniR s.l n w) := by
  have HC := hide (rcheck26_any n w (by omega))
  have H := hide h
  have HM := hide hm
  have HS := hide hs
  obtain ⟨ce, hce⟩ : ∃ ce, ce = chkE n := ⟨_, rfl⟩
  rw [← hce] at HC
  have HCE := hide hce
  clear h hm hs hce
  by_cases h0 : ce = 0
  · have y0 : (ce != 0) = false := by simp [h0]
    have H0 := hide h0
    clear h0
    go_enter Tryz.func29, Tryz.ntmps29
    go_wp2_with (go_at_call 60; refine (Calls.mono HC.out) ?_; rintro e w1 ⟨rfl, b1⟩)
    have HB1 := hide b1
    clear b1 HC
    go_loopw [7, 8] (fun o i wr => ∃ k : Nat, o = .string (nmB n k) ∧ i = .int .i64 ((k : Int) + 2) ∧ (∀ j, j < k → hasR s.l (nmB n j) = true) ∧ Below w.heap.size w wr) (fun _ i _ => s.l.length + 3 - (RowKit.intOf i).toNat)
    case atStart => exact ⟨0, by rw [nmB_zero], rfl, fun j hj => absurd hj (Nat.not_lt_zero _), HB1.out⟩
    case round =>
      obtain ⟨k, rfl, rfl, hu, hb⟩ := hrel
      have HU := hide hu
      have HB := hide hb
      have HR := hide (H.out.below hb)
      clear hu hb
      go_wp2_with fail
      refine (Calls.mono (rfindn_any HR.out (nmB n k) (by have := HM.out; omega))) ?_
      rintro e w2 ⟨u, rfl, hr, rfl⟩
      rcases hr with ⟨rfl, hr⟩ | ⟨x, hx, hxn, rfl⟩
      · have HF := hide (hasR_false.2 hr)
        clear hr
        go_wp2_with fail
        go_ret2
        refine ⟨HB.out, fun h9 => absurd (HCE.out.symm.trans H0.out) h9, fun _ => ⟨k, HU.out, HF.out, rfl⟩⟩
      · have HT1 := hide (hasR_true.2 ⟨x, hx, hxn⟩)
        have HU2 := hide (show ∀ j, j < k + 1 → hasR s.l (nmB n j) = true from fun j hj => by
          rcases Nat.lt_succ_iff_lt_or_eq.1 hj with h1 | rfl
          · exact HU.out j h1
          · exact HT1.out)
        have HLE := hide (usedR_le HU2.out)
        have hk5 : (k : Int) ≤ 500 := by have := HLE.out; have := HM.out; omega
        have HIT := hide (digits_any (k + 2) (by omega) wr)
        rw [show ((k + 2 : Nat) : Int) = (k : Int) + 2 by omega] at HIT
        obtain ⟨ds, hds⟩ : ∃ ds : ByteArray, ds = ⟨(Lib.decDigits (k + 2)).toArray⟩ := ⟨_, rfl⟩
        rw [← hds] at HIT
        have hz0 : ds.size ≤ 3 := by
          have := dec_len (u := k + 2) (by omega)
          rw [hds]
          show (Lib.decDigits (k + 2)).toArray.size ≤ 3
          simpa using this
        have hz1 : n.size + 1 ≤ 9223372036854775807 := by have := HS.out; omega
        have hz2 : n.size + 1 + ds.size ≤ 9223372036854775807 := by have := HS.out; omega
        have hz3 : n.size + 1 + ds.size + 1 ≤ 9223372036854775807 := by have := HS.out; omega
        have HNX := hide (show n ++ ⟨#[60]⟩ ++ ds ++ ⟨#[62]⟩ = nmB n (k + 1) by rw [hds]; exact nmB_next n k)
        clear hx hxn hds hz0
        go_wp2_with fail
        refine (Calls.mono HIT.out) ?_
        rintro e w3 ⟨rfl, b3⟩
        have HB3 := hide (HB.out.trans (b3.mono HB.out.size))
        clear b3
        go_wp2_with fail
        go_roundw
        case rel => exact ⟨k + 1, by rw [HNX.out], by go_num, HU2.out, HB3.out⟩
        case measure => have := HLE.out; simp [RowKit.intOf]; omega
  · have y0 : (ce != 0) = true := by simp [h0]
    have H0 := hide h0
    clear h0
    go_enter Tryz.func29, Tryz.ntmps29
    go_wp2_with (go_at_call 60; refine (Calls.mono HC.out) ?_; rintro e w1 ⟨rfl, b1⟩)
    go_ret2
    exact ⟨b1, fun _ => by rw [← HCE.out]; rfl, fun h9 => absurd (HCE.out.trans h9) H0.out⟩
end
end Go.Proofs.YtnbhejbpofjamaaGreatDoor
namespace Go.Proofs.YtnbhejbpofjamaaGreatDoor
open Go.RowKit

theorem entry_info : (Tryz.prog.info? 87).map (fun i => (i.zero, i.size, i.bytes)) = some (some (.agg #[.int .i64 0, .string ⟨#[]⟩, .pointer none]), 3, 32) := by kernel_rfl
/-- A list without its k-th. -/
def drp (l : List Rn) (k : Nat) : List Rn := l.take k ++ l.drop (k + 1)
theorem drp_len {l : List Rn} {k : Nat} (h : k < l.length) : (drp l k).length + 1 = l.length := by
  unfold drp
  rw [List.length_append, List.length_take, List.length_drop]
  omega
theorem drp_sl {w : World} {v : Value} {l : List Rn} {n k : Nat} (hn : n = l.length) (hk : k < n) (h : Sl w 87 3 v (k + (n - (k + 1))) (rows Rn.cells (l.take k) ++ rows Rn.cells (l.drop (k + 1)))) : Sl w 87 3 v (drp l k).length (rows Rn.cells (drp l k)) := by
  have e : (drp l k).length = k + (n - (k + 1)) := by
    have := drp_len (l := l) (k := k) (by omega)
    omega
  rw [e]
  unfold drp
  rw [rows_append]
  exact h
def kilR (s : Rst) (k : Nat) (x : Rn) : Rst := ⟨drp s.l k, s.nx, if s.cu = x.id then ((drp s.l k).map Rn.id).headD 0 else s.cu⟩
section
variable {W w w' : World} {rb : Nat} {v : Value} {s : Rst} {X Y : Heap}
theorem RAt.set {v' : Value} {l' : List Rn} (h : RAt W w rb v s X) (hb : Below w.heap.size w w') (hs : Sl w' 87 3 v' l'.length (rows Rn.cells l')) (hf : ∀ g, v'.ownBlock = some g → w.heap.size ≤ g) : RAt W (w'.setCell ⟨rb, 0, none⟩ v') rb v' { s with l := l' } X := by
  have h1 := h.own.joinRow hb hs hf
  have h2 := (h1.perm (List.perm_middle (a := (rb, Ast.cells 84 (rsC v s))))).setCell 0 v'
  refine ⟨h2.sub ?_, hs.rowOk⟩
  exact ((List.Sublist.refl _).append (List.sublist_append_right _ _)).cons_cons _
theorem RAt.setCu (h : RAt W w rb v s X) (c : Nat) : RAt W (w.setCell ⟨rb, 2, none⟩ (.int .i64 (c : Int))) rb v { s with cu := c } X := ⟨Own.setCell h.own 2 (.int .i64 (c : Int)), h.ok⟩
def KilR (W : World) (rb : Nat) (v : Value) (s : Rst) (id : Int) (X : Heap) (e : Ending) (w' : World) : Prop :=
  (e = .returned (.int .i64 8) ∧ (∀ x ∈ s.l, (x.id : Int) ≠ id) ∧ RAt W w' rb v s X) ∨ ∃ k x, s.l[k]? = some x ∧ (x.id : Int) = id ∧ ((s.l.length = 1 ∧ e = .returned (.int .i64 9) ∧ RAt W w' rb v s X) ∨ (s.l.length ≠ 1 ∧ e = .returned (.int .i64 0) ∧ ∃ v', RAt W w' rb v' (kilR s k x) X))
set_option maxRecDepth 100000 in
set_option maxHeartbeats 16000000 in
theorem rkill_any (h : RAt W w rb v s X) (id : Int) (hl : s.l.length ≤ 1000) : Calls Tryz.prog 51 #[.pointer (some ⟨rb, 0, none⟩), .int .i64 id] w (KilR W rb v s id X) := by
  obtain ⟨c0, _, _⟩ := h.cells
  obtain ⟨A, c, hv, hcap, hcm⟩ := h.sl.form
  have HF := hide (rfindid_any h id hl)
  have H := hide h
  obtain ⟨n, hn⟩ : ∃ n, n = s.l.length := ⟨_, rfl⟩
  rw [← hn] at hv hcap
  subst hv
  have HN := hide hn
  have hn1 : (n : Int) ≤ 1000 := by omega
  have HN1 := hide (show n ≤ 1000 by omega)
  have HCAP := hide hcap
  have HRD := hide h.sl.rd
  clear h hn hl
  go_enter Tryz.func51, Tryz.ntmps51
  go_wp2_with fail
  refine Calls.mono HF.out ?_
  rintro e w1 ⟨i, rfl, hi, rfl⟩
  rcases hi with ⟨rfl, hno⟩ | ⟨k, x, rfl, hx, hxi⟩
  · have HNO := hide hno
    clear hno hcap hcm
    go_wp2_with fail
    go_ret
    exact .inl ⟨rfl, HNO.out, H.out⟩
  · have HX := hide hx
    have HXI := hide hxi
    have hk : k < n := by rw [HN.out]; exact (List.getElem?_eq_some_iff.1 hx).1
    have y1 : decide ((k : Int) < 0) = false := by simp
    by_cases h1 : n = 1
    · have z1 : decide (n = 1) = true := by simpa using h1
      have z2 : decide ((n : Int) = 1) = true := by simp; omega
      have H1 := hide h1
      clear hx hxi hcap hcm hk
      subst h1
      go_wp2_with fail
      go_ret
      exact .inr ⟨k, x, HX.out, HXI.out, .inl ⟨HN.out.symm, rfl, H.out⟩⟩
    · have z1 : decide (n = 1) = false := by simpa using h1
      have z2 : decide ((n : Int) = 1) = false := by simp; omega
      have z3 : ((n : Int) == 1) = false := by simp; omega
      have HNE := hide h1
      have HK := hide hk
      have hr0 := HRD.out
      rw [← HN.out] at hr0
      obtain ⟨g, off, rfl, r0, r1, r2⟩ := rn_row hr0 hx hk
      have hw5 : IntKind.i64.wrap (k : Int) = (k : Int) := IntWalk.i64_in _ (by omega)
      have hw6 : IntKind.i64.wrap ((k : Int) + 1) = ((k + 1 : Nat) : Int) := by rw [show (k : Int) + 1 = ((k + 1 : Nat) : Int) by omega]; exact IntWalk.i64_in _ (by omega)
      have hw0 : IntKind.i64.wrap 0 = 0 := IntWalk.i64_in _ (by omega)
      have kb1 : (0 : Int) ≤ (k : Int) := by omega
      have kb2 : (k : Int) ≤ (c : Int) := by omega
      have kb3 : (k : Int) ≤ (n : Int) := by omega
      have kb4 : (n : Int) ≤ (c : Int) := by omega
      have kb5 : (0 : Int) ≤ ((k + 1 : Nat) : Int) := by omega
      have kb6 : ((k + 1 : Nat) : Int) ≤ (c : Int) := by omega
      have kb7 : ((k + 1 : Nat) : Int) ≤ (n : Int) := by omega
      have kb8 : (0 : Int) ≤ (k : Int) + 1 := by omega
      have kb9 : (k : Int) + 1 ≤ (n : Int) := by omega
      have kb10 : (k : Int) + 1 ≤ (c : Int) := by omega
      clear hx hxi hr0 r0 r1 r2 HRD
      unfold maxLen at hcm
      go_upto_region 6 with fail
      have H5 := hide (H.out.below (Below.refl _ _).drew)
      refine wp_region_d (S := fun w' => w'.cell? ⟨rb, 0, none⟩ = some (.slice (some ⟨g, off, none⟩) n c)) (D := [19]) (by kernel_rfl) ?_
      change wpAnyD _ _ _ _ _ _ _ _ _ w.drew
      generalize w.drew = w0 at H5 ⊢
      have b0 := hide (Below.refl w0.heap.size w0)
      have HQ := hide (show ∀ w', Below w0.heap.size w0 w' → w'.cell? ⟨rb, 0, none⟩ = some (.slice (some ⟨g, off, none⟩) n c) from fun w' hb => (H5.out.below hb).cells.1)
      have HFT := hide (fun w' (hb : Below w0.heap.size w0 w') => (show Rd w' (.slice (some ⟨g, off, none⟩) k c) 3 k (rows Rn.cells (s.l.take k)) from by have h0 := (H5.out.sl.rd).belowF hb; rw [← HN.out] at h0; have h1 := h0.front (k := k) (Nat.le_of_lt HK.out) c; rwa [rows_take rn_len] at h1))
      have HBK := hide (fun w' (hb : Below w0.heap.size w0 w') => (show Rd w' (.slice (if c = k + 1 then some ⟨g, off, none⟩ else some ⟨g, off + (k + 1) * 3, none⟩) (n - (k + 1)) (c - (k + 1))) 3 (n - (k + 1)) (rows Rn.cells (s.l.drop (k + 1))) from by have h0 := (H5.out.sl.rd).belowF hb; rw [← HN.out] at h0; have h1 := h0.back_if (k := k + 1) HK.out HCAP.out (c - (k + 1)); rwa [rows_drop rn_len] at h1))
      obtain ⟨i0, hi, hz0, hz1, hz2⟩ := info_parts entry_info
      have hS := HQ.out _ b0.out
      refine wpAnyD_takeW (i := 0) (oi := { dst := some 19, op := Op.move (Operand.tmp 0), type := 48, pos := "ref.go:81", after := #[], guard := none }) (v := ?_) rfl (by kernel_rfl) (by kernel_rfl) (by kernel_rfl) (fun _ _ _ h => h) (Or.inl ⟨by rfl, ?_⟩) ?_
      rotate_left
      · intro w hSw
        clear hSw
        go_simp
        all_goals with_reducible rfl
      simp only [Act.put, List.setIfInBounds_toArray, List.set_cons_zero, List.set_cons_succ]
      refine wpAnyD_takeW (i := 2) (oi := { dst := some 21, op := Op.move (Operand.tmp 0), type := 48, pos := "ref.go:81", after := #[], guard := none }) (v := ?_) rfl (by kernel_rfl) (by kernel_rfl) (by kernel_rfl) (fun _ _ _ h => h) (Or.inl ⟨by rfl, ?_⟩) ?_
      rotate_left
      · intro w hSw
        clear hSw
        go_simp
        all_goals with_reducible rfl
      simp only [Act.put, List.setIfInBounds_toArray, List.set_cons_zero, List.set_cons_succ]
      refine wpAnyD_takeW (i := 3) (oi := { dst := some 22, op := Op.nilCheck (Operand.tmp 21), type := 0, pos := "ref.go:81", after := #[{ on := 2, ground := Ground.data }], guard := none }) (v := ?_) rfl (by kernel_rfl) (by kernel_rfl) (by kernel_rfl) (fun _ _ _ h => h) (Or.inl ⟨by rfl, ?_⟩) ?_
      rotate_left
      · intro w hSw
        clear hSw
        go_simp
        all_goals with_reducible rfl
      simp only [Act.put, List.setIfInBounds_toArray, List.set_cons_zero, List.set_cons_succ]
      refine wpAnyD_takeW (i := 4) (oi := { dst := some 23, op := Op.fieldAddr 84 (Operand.tmp 22) 0, type := 0, pos := "ref.go:81", after := #[{ on := 3, ground := Ground.data }], guard := none }) (v := ?_) rfl (by kernel_rfl) (by kernel_rfl) (by kernel_rfl) (fun _ _ _ h => h) (Or.inl ⟨by rfl, ?_⟩) ?_
      rotate_left
      · intro w hSw
        clear hSw
        go_simp
        all_goals with_reducible rfl
      simp only [Act.put, List.setIfInBounds_toArray, List.set_cons_zero, List.set_cons_succ]
      refine wpAnyD_take (i := 5) (oi := { dst := some 24, op := Op.load 82 (Operand.tmp 23), type := 82, pos := "ref.go:81", after := #[{ on := 4, ground := Ground.data }], guard := none }) (v := ?_) rfl (by kernel_rfl) (by kernel_rfl) (by kernel_rfl) (by kernel_rfl) (by kernel_rfl) (fun _ _ _ h => h) (Or.inl ⟨by rfl, ?_⟩) hS ?_
      rotate_left
      · intro w hSw
        have s0 := hSw
        go_simp
        all_goals with_reducible rfl
      simp only [Act.put, List.setIfInBounds_toArray, List.set_cons_zero, List.set_cons_succ]
      refine wpAnyD_takeW (i := 6) (oi := { dst := some 25, op := Op.move (Operand.tmp 5), type := 3, pos := "ref.go:81", after := #[], guard := none }) (v := ?_) rfl (by kernel_rfl) (by kernel_rfl) (by kernel_rfl) (fun _ _ _ h => h) (Or.inl ⟨by rfl, ?_⟩) ?_
      rotate_left
      · intro w hSw
        clear hSw
        go_simp
        all_goals with_reducible rfl
      simp only [Act.put, List.setIfInBounds_toArray, List.set_cons_zero, List.set_cons_succ]
      refine wpAnyD_takeW (i := 7) (oi := { dst := some 26, op := Op.slice 82 (Operand.tmp 24) none (some (Operand.tmp 25)) none, type := 82, pos := "ref.go:81", after := #[{ on := 5, ground := Ground.data }, { on := 6, ground := Ground.data }], guard := none }) (v := ?_) rfl (by kernel_rfl) (by kernel_rfl) (by kernel_rfl) (fun _ _ _ h => h) (Or.inl ⟨by rfl, ?_⟩) ?_
      rotate_left
      · intro w hSw
        clear hSw
        go_simp
        all_goals with_reducible rfl
      simp only [Act.put, List.setIfInBounds_toArray, List.set_cons_zero, List.set_cons_succ]
      refine wpAnyD_takeW (i := 9) (oi := { dst := some 28, op := Op.move (Operand.tmp 0), type := 48, pos := "ref.go:81", after := #[], guard := none }) (v := ?_) rfl (by kernel_rfl) (by kernel_rfl) (by kernel_rfl) (fun _ _ _ h => h) (Or.inl ⟨by rfl, ?_⟩) ?_
      rotate_left
      · intro w hSw
        clear hSw
        go_simp
        all_goals with_reducible rfl
      simp only [Act.put, List.setIfInBounds_toArray, List.set_cons_zero, List.set_cons_succ]
      refine wpAnyD_takeW (i := 10) (oi := { dst := some 29, op := Op.nilCheck (Operand.tmp 28), type := 0, pos := "ref.go:81", after := #[{ on := 9, ground := Ground.data }], guard := none }) (v := ?_) rfl (by kernel_rfl) (by kernel_rfl) (by kernel_rfl) (fun _ _ _ h => h) (Or.inl ⟨by rfl, ?_⟩) ?_
      rotate_left
      · intro w hSw
        clear hSw
        go_simp
        all_goals with_reducible rfl
      simp only [Act.put, List.setIfInBounds_toArray, List.set_cons_zero, List.set_cons_succ]
      refine wpAnyD_takeW (i := 11) (oi := { dst := some 30, op := Op.fieldAddr 84 (Operand.tmp 29) 0, type := 0, pos := "ref.go:81", after := #[{ on := 10, ground := Ground.data }], guard := none }) (v := ?_) rfl (by kernel_rfl) (by kernel_rfl) (by kernel_rfl) (fun _ _ _ h => h) (Or.inl ⟨by rfl, ?_⟩) ?_
      rotate_left
      · intro w hSw
        clear hSw
        go_simp
        all_goals with_reducible rfl
      simp only [Act.put, List.setIfInBounds_toArray, List.set_cons_zero, List.set_cons_succ]
      refine wpAnyD_take (i := 12) (oi := { dst := some 31, op := Op.load 82 (Operand.tmp 30), type := 82, pos := "ref.go:81", after := #[{ on := 11, ground := Ground.data }], guard := none }) (v := ?_) rfl (by kernel_rfl) (by kernel_rfl) (by kernel_rfl) (by kernel_rfl) (by kernel_rfl) (fun _ _ _ h => h) (Or.inl ⟨by rfl, ?_⟩) hS ?_
      rotate_left
      · intro w hSw
        have s0 := hSw
        go_simp
        all_goals with_reducible rfl
      simp only [Act.put, List.setIfInBounds_toArray, List.set_cons_zero, List.set_cons_succ]
      refine wpAnyD_takeW (i := 13) (oi := { dst := some 32, op := Op.move (Operand.tmp 5), type := 3, pos := "ref.go:81", after := #[], guard := none }) (v := ?_) rfl (by kernel_rfl) (by kernel_rfl) (by kernel_rfl) (fun _ _ _ h => h) (Or.inl ⟨by rfl, ?_⟩) ?_
      rotate_left
      · intro w hSw
        clear hSw
        go_simp
        all_goals with_reducible rfl
      simp only [Act.put, List.setIfInBounds_toArray, List.set_cons_zero, List.set_cons_succ]
      refine wpAnyD_takeW (i := 14) (oi := { dst := some 33, op := Op.binOp BinOp.add 3 (Operand.tmp 32) (Operand.const (Value.int IntKind.i64 1)) 3, type := 3, pos := "ref.go:81", after := #[{ on := 13, ground := Ground.data }], guard := none }) (v := ?_) rfl (by kernel_rfl) (by kernel_rfl) (by kernel_rfl) (fun _ _ _ h => h) (Or.inl ⟨by rfl, ?_⟩) ?_
      rotate_left
      · intro w hSw
        clear hSw
        go_simp
        all_goals with_reducible rfl
      simp only [Act.put, List.setIfInBounds_toArray, List.set_cons_zero, List.set_cons_succ]
      refine wpAnyD_takeW (i := 15) (oi := { dst := some 34, op := Op.slice 82 (Operand.tmp 31) (some (Operand.tmp 33)) none none, type := 82, pos := "ref.go:81", after := #[{ on := 12, ground := Ground.data }, { on := 14, ground := Ground.data }], guard := none }) (v := ?_) rfl (by kernel_rfl) (by kernel_rfl) (by kernel_rfl) (fun _ _ _ h => h) (Or.inl ⟨by rfl, ?_⟩) ?_
      rotate_left
      · intro w hSw
        clear hSw
        go_simp
        all_goals with_reducible rfl
      simp only [Act.put, List.setIfInBounds_toArray, List.set_cons_zero, List.set_cons_succ]
      clear hS
      refine wpAnyD_one (i := 1) (o := { dst := some 20, op := Op.buildSlice 82 0 #[], type := 82, pos := "ref.go:81", after := #[], guard := none }) (by kernel_rfl) rfl (fun K hK => ?_)
      have b1 := hide (b0.out.alloc b0.out.size (.cells #[] 87))
      have E1 := hide (show Sl (w0.alloc (.cells #[] 87)) 87 3 (.slice (some ⟨w0.heap.size, 0, none⟩) 0 0) 0 [] from by simpa using (Sl.new w0 87 3 #[] 0 0 (Nat.le_refl _) (Nat.zero_le _) (Nat.le_refl _)))
      have V1 := hide (show ∀ g, (Value.slice (some ⟨w0.heap.size, 0, none⟩) 0 0).ownBlock = some g → w0.heap.size ≤ g from fun g hg => by
        cases hg
        exact Nat.le_refl _)
      go_simp
      refine hK _ _ (fun _ _ => HQ.out _ b1.out) ?_
      clear hK K
      try simp only [Act.put, List.setIfInBounds_toArray, List.set_cons_zero, List.set_cons_succ]
      refine wpAnyD_one (i := 8) (o := { dst := some 27, op := Op.call { callee := Callee.builtin Builtin.append, args := #[Operand.tmp 20, Operand.tmp 26], argTypes := #[82, 82] }, type := 82, pos := "ref.go:81", after := #[{ on := 1, ground := Ground.data }, { on := 7, ground := Ground.data }], guard := none }) (by kernel_rfl) rfl (fun K hK => ?_)
      refine step_append_w (by rfl) (.tmp 20) (.tmp 26) 82 rfl 87 i0 _ 3 32 Tryz.underlying82 hi hz0 hz1 hz2 rfl (.slice (some ⟨w0.heap.size, 0, none⟩) 0 0) (0) ([]) (by rfl) E1.out _ (by rfl) k (rows Rn.cells (s.l.take k)) (HFT.out _ b1.out) (rows_cells fun e _ => rn_one e) (by have := HN1.out; unfold maxLen; omega) (by have := HN1.out; omega) ?_
      intro v2 w2 hs2 ho2 hv2
      rw [Nat.zero_add, List.nil_append] at hs2
      have b2 := hide (b1.out.trans (ho2.below b1.out.size fun i hi => V1.out i hi))
      have E2 := hide hs2
      have V2 := hide (show ∀ g, v2.ownBlock = some g → w0.heap.size ≤ g from fun g hg => by
        rcases hv2 with e | e
        · exact V1.out g (by rw [← e]; exact hg)
        · rw [e] at hg
          cases hg
          exact b1.out.size)
      clear hs2 ho2 hv2
      refine hK _ _ (fun _ _ => HQ.out _ b2.out) ?_
      clear hK K
      try simp only [Act.put, List.setIfInBounds_toArray, List.set_cons_zero, List.set_cons_succ]
      refine wpAnyD_one (i := 16) (o := { dst := some 35, op := Op.call { callee := Callee.builtin Builtin.append, args := #[Operand.tmp 27, Operand.tmp 34], argTypes := #[82, 82] }, type := 82, pos := "ref.go:81", after := #[{ on := 8, ground := Ground.data }, { on := 15, ground := Ground.data }, { on := 8, ground := Ground.chain }], guard := none }) (by kernel_rfl) rfl (fun K hK => ?_)
      refine step_append_w (by rfl) (.tmp 27) (.tmp 34) 82 rfl 87 i0 _ 3 32 Tryz.underlying82 hi hz0 hz1 hz2 rfl v2 (k) (rows Rn.cells (s.l.take k)) (by rfl) E2.out _ (by rfl) (n - (k + 1)) (rows Rn.cells (s.l.drop (k + 1))) (HBK.out _ b2.out) (rows_cells fun e _ => rn_one e) (by have := HN1.out; unfold maxLen; omega) (by have := HN1.out; omega) ?_
      intro v3 w3 hs3 ho3 hv3
      have b3 := hide (b2.out.trans (ho3.below b2.out.size fun i hi => V2.out i hi))
      have E3 := hide hs3
      have V3 := hide (show ∀ g, v3.ownBlock = some g → w0.heap.size ≤ g from fun g hg => by
        rcases hv3 with e | e
        · exact V2.out g (by rw [← e]; exact hg)
        · rw [e] at hg
          cases hg
          exact b2.out.size)
      clear hs3 ho3 hv3
      refine hK _ _ (fun _ _ => HQ.out _ b3.out) ?_
      clear hK K
      try simp only [Act.put, List.setIfInBounds_toArray, List.set_cons_zero, List.set_cons_succ]
      have EF := hide (drp_sl HN.out HK.out E3.out)
      obtain ⟨Ax, cx, hvx, _⟩ := EF.out.form
      subst hvx
      refine wpAnyD_takeW (i := 17) (oi := { dst := some 36, op := Op.nilCheck (Operand.tmp 19), type := 0, pos := "ref.go:81", after := #[{ on := 0, ground := Ground.data }, { on := 0, ground := Ground.phase }, { on := 1, ground := Ground.phase }, { on := 2, ground := Ground.phase }, { on := 3, ground := Ground.phase }, { on := 4, ground := Ground.phase }, { on := 5, ground := Ground.phase }, { on := 6, ground := Ground.phase }, { on := 7, ground := Ground.phase }, { on := 8, ground := Ground.phase }, { on := 9, ground := Ground.phase }, { on := 10, ground := Ground.phase }, { on := 11, ground := Ground.phase }, { on := 12, ground := Ground.phase }, { on := 13, ground := Ground.phase }, { on := 14, ground := Ground.phase }, { on := 15, ground := Ground.phase }, { on := 16, ground := Ground.phase }], guard := none }) (v := ?_) rfl (by kernel_rfl) (by kernel_rfl) (by kernel_rfl) (fun _ _ _ h => h) (Or.inl ⟨by rfl, ?_⟩) ?_
      rotate_left
      · intro w hSw
        clear hSw
        go_simp
        all_goals with_reducible rfl
      simp only [Act.put, List.setIfInBounds_toArray, List.set_cons_zero, List.set_cons_succ]
      refine wpAnyD_takeW (i := 18) (oi := { dst := some 37, op := Op.fieldAddr 84 (Operand.tmp 36) 0, type := 0, pos := "ref.go:81", after := #[{ on := 17, ground := Ground.data }, { on := 0, ground := Ground.phase }, { on := 1, ground := Ground.phase }, { on := 2, ground := Ground.phase }, { on := 3, ground := Ground.phase }, { on := 4, ground := Ground.phase }, { on := 5, ground := Ground.phase }, { on := 6, ground := Ground.phase }, { on := 7, ground := Ground.phase }, { on := 8, ground := Ground.phase }, { on := 9, ground := Ground.phase }, { on := 10, ground := Ground.phase }, { on := 11, ground := Ground.phase }, { on := 12, ground := Ground.phase }, { on := 13, ground := Ground.phase }, { on := 14, ground := Ground.phase }, { on := 15, ground := Ground.phase }, { on := 16, ground := Ground.phase }], guard := none }) (v := ?_) rfl (by kernel_rfl) (by kernel_rfl) (by kernel_rfl) (fun _ _ _ h => h) (Or.inl ⟨by rfl, ?_⟩) ?_
      rotate_left
      · intro w hSw
        clear hSw
        go_simp
        all_goals with_reducible rfl
      simp only [Act.put, List.setIfInBounds_toArray, List.set_cons_zero, List.set_cons_succ]
      have fz : w3.frozen? ⟨rb, 0, none⟩ = false := (H5.out.below b3.out).blk.frozen 0
      have hS := HQ.out _ b3.out
      refine wpAnyD_one (i := 19) (o := { dst := none, op := Op.store 82 (Operand.tmp 37) (Operand.tmp 35), type := 0, pos := "ref.go:81", after := #[{ on := 18, ground := Ground.data }, { on := 16, ground := Ground.data }, { on := 16, ground := Ground.chain }, { on := 0, ground := Ground.phase }, { on := 1, ground := Ground.phase }, { on := 2, ground := Ground.phase }, { on := 3, ground := Ground.phase }, { on := 4, ground := Ground.phase }, { on := 5, ground := Ground.phase }, { on := 6, ground := Ground.phase }, { on := 7, ground := Ground.phase }, { on := 8, ground := Ground.phase }, { on := 9, ground := Ground.phase }, { on := 10, ground := Ground.phase }, { on := 11, ground := Ground.phase }, { on := 12, ground := Ground.phase }, { on := 13, ground := Ground.phase }, { on := 14, ground := Ground.phase }, { on := 15, ground := Ground.phase }, { on := 16, ground := Ground.phase }], guard := none }) (by kernel_rfl) rfl (fun K hK => ?_)
      go_simp
      refine hK _ _ (fun h => by cases h) ?_
      clear hK K
      try simp only [Act.put, List.setIfInBounds_toArray, List.set_cons_zero, List.set_cons_succ]
      refine wpAnyD_done (by kernel_rfl) ?_ _
      clear hi hz0 hz1 hz2
      obtain ⟨N, hN⟩ : ∃ N, N = (drp s.l k).length := ⟨_, rfl⟩
      have H6 := hide (H5.out.set b3.out EF.out V3.out)
      rw [← hN] at H6 ⊢
      obtain ⟨w4, hw4⟩ : ∃ y : World, y = w3.setCell ⟨rb, 0, none⟩ (.slice Ax N cx) := ⟨_, rfl⟩
      rw [← hw4] at H6 ⊢
      have hNp : N + 1 = n := by rw [hN, HN.out]; exact drp_len (by rw [← HN.out]; exact HK.out)
      obtain ⟨hd, tl, hdt⟩ : ∃ hd tl, drp s.l k = hd :: tl := List.exists_cons_of_length_pos (by have := HNE.out; omega)
      have HDT := hide hdt
      have HNN := hide hN
      obtain ⟨d0, _, d2⟩ := H6.out.cells
      have hrd := H6.out.sl.rd
      rw [show (({ s with l := drp s.l k } : Rst).l) = drp s.l k from rfl, ← hN] at hrd
      obtain ⟨g6, o6, hA6, r0, _, _⟩ := rn_row hrd (i := 0) (e := hd) (by rw [hdt]; rfl) (by have := HNE.out; omega)
      subst hA6
      have f2 := H6.out.blk.frozen 2
      have y5 : decide (0 < N) = true := by have := HNE.out; simp; omega
      have y6 : (0 : Int) < (N : Int) := by have := HNE.out; omega
      have r0' : w4.cell? ⟨g6, o6, none⟩ = some (.int .i64 (hd.id : Int)) := by simpa using r0
      by_cases hcu : s.cu = x.id
      · have z4 : ((s.cu : Int) == id) = true := by have := HXI.out; simp; omega
        have z5 : decide ((s.cu : Int) = id) = true := by have := HXI.out; simp; omega
        have HE := hide (show kilR s k x = ⟨drp s.l k, s.nx, hd.id⟩ from by unfold kilR; rw [if_pos hcu, hdt]; rfl)
        have HS := hide (H6.out.setCu hd.id)
        clear hcu hdt hN hw4 hrd hNp
        go_wp2_with fail
        all_goals go_ret
        all_goals exact .inr ⟨k, x, HX.out, HXI.out, .inr ⟨by rw [← HN.out]; exact HNE.out, rfl, _, by rw [HE.out]; exact HS.out⟩⟩
      · have z4 : ((s.cu : Int) == id) = false := by have := HXI.out; simp; omega
        have z5 : decide ((s.cu : Int) = id) = false := by have := HXI.out; simp; omega
        have HE := hide (show kilR s k x = ⟨drp s.l k, s.nx, s.cu⟩ from by unfold kilR; rw [if_neg hcu])
        clear hcu hdt hN hw4 hrd hNp
        go_wp2_with fail
        all_goals go_ret
        all_goals exact .inr ⟨k, x, HX.out, HXI.out, .inr ⟨by rw [← HN.out]; exact HNE.out, rfl, _, by rw [HE.out]; exact H6.out⟩⟩
def MovR (W : World) (rb : Nat) (s : Rst) (l' : List Rn) (X : Heap) (e : Ending) (w' : World) : Prop := e = .returned (.tuple #[]) ∧ ∃ v', RAt W w' rb v' { s with l := l' } X
def mov (l : List Rn) (k : Nat) (x : Rn) (front : Bool) : List Rn := if front then x :: drp l k else drp l k ++ [x]
theorem entry_size : (Tryz.prog.info? 87).map (·.size) = some 3 := by kernel_rfl
set_option maxRecDepth 100000 in
set_option maxHeartbeats 16000000 in
theorem rmove_any (h : RAt W w rb v s X) (hl : s.l.length ≤ 1000) {k : Nat} {x : Rn} (hx : s.l[k]? = some x) (front : Bool) : Calls Tryz.prog 75 #[.pointer (some ⟨rb, 0, none⟩), .int .i64 (k : Int), .bool front] w (MovR W rb s (mov s.l k x front) X) := by
  obtain ⟨c0, _, _⟩ := h.cells
  obtain ⟨A, c, hv, hcap, hcm⟩ := h.sl.form
  have H := hide h
  obtain ⟨n, hn⟩ : ∃ n, n = s.l.length := ⟨_, rfl⟩
  have hr0 := h.sl.rd
  rw [← hn] at hv hcap hr0
  subst hv
  have HN := hide hn
  have hn1 : (n : Int) ≤ 1000 := by omega
  have HN1 := hide (show n ≤ 1000 by omega)
  have HCAP := hide hcap
  have hk : k < n := by rw [hn]; exact (List.getElem?_eq_some_iff.1 hx).1
  have HX := hide hx
  have HK := hide hk
  obtain ⟨g, off, rfl, r0, r1, r2⟩ := rn_row hr0 hx hk
  have hw5 : IntKind.i64.wrap (k : Int) = (k : Int) := IntWalk.i64_in _ (by omega)
  have hw6 : IntKind.i64.wrap ((k : Int) + 1) = ((k + 1 : Nat) : Int) := by rw [show (k : Int) + 1 = ((k + 1 : Nat) : Int) by omega]; exact IntWalk.i64_in _ (by omega)
  have hw0 : IntKind.i64.wrap 0 = 0 := IntWalk.i64_in _ (by omega)
  have kb1 : (0 : Int) ≤ (k : Int) := by omega
  have kb2 : (k : Int) ≤ (c : Int) := by omega
  have kb3 : (k : Int) ≤ (n : Int) := by omega
  have kb4 : (n : Int) ≤ (c : Int) := by omega
  have kb5 : (0 : Int) ≤ ((k + 1 : Nat) : Int) := by omega
  have kb6 : ((k + 1 : Nat) : Int) ≤ (c : Int) := by omega
  have kb7 : ((k + 1 : Nat) : Int) ≤ (n : Int) := by omega
  have kb8 : (0 : Int) ≤ (k : Int) + 1 := by omega
  have kb9 : (k : Int) + 1 ≤ (n : Int) := by omega
  have kb10 : (k : Int) + 1 ≤ (c : Int) := by omega
  have kb11 : (k : Int) < (n : Int) := by omega
  have HBX := Blk.new w 87 #[.int .i64 (x.id : Int), .string x.name, .pointer (some ⟨x.b, 0, none⟩)]
  have HW1 := hide (show RAt W (w.alloc (.cells #[.int .i64 (x.id : Int), .string x.name, .pointer (some ⟨x.b, 0, none⟩)] 87)) rb _ s X from h.below (below_box w _))
  obtain ⟨bx, hbx⟩ : ∃ q, q = w.heap.size := ⟨_, rfl⟩
  unfold maxLen at hcm
  clear h hn hl hx hk hr0
  go_enter Tryz.func75, Tryz.ntmps75
  go_upto_region 1 with fail
  obtain ⟨w1, hw1⟩ : ∃ y : World, y = w.alloc (.cells #[.int .i64 (x.id : Int), .string x.name, .pointer (some ⟨x.b, 0, none⟩)] 87) := ⟨_, rfl⟩
  rw [← hw1] at HW1 HBX ⊢
  rw [← hbx] at HBX ⊢
  have H1 := HW1
  have HB1 := hide (fun (y : World) (hb : Below w1.drew.heap.size w1.drew y) => (show y.cell? ⟨bx, 0, none⟩ = some (.int .i64 (x.id : Int)) ∧ y.cell? ⟨bx, 1, none⟩ = some (.string x.name) ∧ y.cell? ⟨bx, 2, none⟩ = some (.pointer (some ⟨x.b, 0, none⟩)) from by
    have h9 : Blk y bx 87 _ := HBX.drew.below hb HBX.lt
    exact ⟨(h9.cell 0).trans rfl, (h9.cell 1).trans rfl, (h9.cell 2).trans rfl⟩))
  have c0 : w1.cell? ⟨rb, 0, none⟩ = some (.slice (some ⟨g, off, none⟩) n c) := H1.out.cells.1
  clear hw1 hbx r0 r1 r2 HBX HW1 kb11
  have H5 := hide (H1.out.below (Below.refl _ _).drew)
  refine wp_region_d (S := fun w' => w'.cell? ⟨rb, 0, none⟩ = some (.slice (some ⟨g, off, none⟩) n c)) (D := []) (by kernel_rfl) ?_
  change wpAnyD _ _ _ _ _ _ _ _ _ w1.drew
  generalize w1.drew = w0 at H5 HB1 ⊢
  have b0 := hide (Below.refl w0.heap.size w0)
  have HQ := hide (show ∀ w', Below w0.heap.size w0 w' → w'.cell? ⟨rb, 0, none⟩ = some (.slice (some ⟨g, off, none⟩) n c) from fun w' hb => (H5.out.below hb).cells.1)
  have HFT := hide (fun w' (hb : Below w0.heap.size w0 w') => (show Rd w' (.slice (some ⟨g, off, none⟩) k c) 3 k (rows Rn.cells (s.l.take k)) from by have h0 := (H5.out.sl.rd).belowF hb; rw [← HN.out] at h0; have h1 := h0.front (k := k) (Nat.le_of_lt HK.out) c; rwa [rows_take rn_len] at h1))
  have HBK := hide (fun w' (hb : Below w0.heap.size w0 w') => (show Rd w' (.slice (if c = k + 1 then some ⟨g, off, none⟩ else some ⟨g, off + (k + 1) * 3, none⟩) (n - (k + 1)) (c - (k + 1))) 3 (n - (k + 1)) (rows Rn.cells (s.l.drop (k + 1))) from by have h0 := (H5.out.sl.rd).belowF hb; rw [← HN.out] at h0; have h1 := h0.back_if (k := k + 1) HK.out HCAP.out (c - (k + 1)); rwa [rows_drop rn_len] at h1))
  obtain ⟨i0, hi, hz0, hz1, hz2⟩ := info_parts entry_info
  have hS := HQ.out _ b0.out
  refine wpAnyD_takeW (i := 1) (oi := { dst := some 16, op := Op.move (Operand.tmp 0), type := 48, pos := "ref.go:172", after := #[], guard := none }) (v := ?_) rfl (by kernel_rfl) (by kernel_rfl) (by kernel_rfl) (fun _ _ _ h => h) (Or.inl ⟨by rfl, ?_⟩) ?_
  rotate_left
  · intro w hSw
    clear hSw
    go_simp
    all_goals with_reducible rfl
  simp only [Act.put, List.setIfInBounds_toArray, List.set_cons_zero, List.set_cons_succ]
  refine wpAnyD_takeW (i := 2) (oi := { dst := some 17, op := Op.nilCheck (Operand.tmp 16), type := 0, pos := "ref.go:172", after := #[{ on := 1, ground := Ground.data }], guard := none }) (v := ?_) rfl (by kernel_rfl) (by kernel_rfl) (by kernel_rfl) (fun _ _ _ h => h) (Or.inl ⟨by rfl, ?_⟩) ?_
  rotate_left
  · intro w hSw
    clear hSw
    go_simp
    all_goals with_reducible rfl
  simp only [Act.put, List.setIfInBounds_toArray, List.set_cons_zero, List.set_cons_succ]
  refine wpAnyD_takeW (i := 3) (oi := { dst := some 18, op := Op.fieldAddr 84 (Operand.tmp 17) 0, type := 0, pos := "ref.go:172", after := #[{ on := 2, ground := Ground.data }], guard := none }) (v := ?_) rfl (by kernel_rfl) (by kernel_rfl) (by kernel_rfl) (fun _ _ _ h => h) (Or.inl ⟨by rfl, ?_⟩) ?_
  rotate_left
  · intro w hSw
    clear hSw
    go_simp
    all_goals with_reducible rfl
  simp only [Act.put, List.setIfInBounds_toArray, List.set_cons_zero, List.set_cons_succ]
  refine wpAnyD_take (i := 4) (oi := { dst := some 19, op := Op.load 82 (Operand.tmp 18), type := 82, pos := "ref.go:172", after := #[{ on := 3, ground := Ground.data }], guard := none }) (v := ?_) rfl (by kernel_rfl) (by kernel_rfl) (by kernel_rfl) (by kernel_rfl) (by kernel_rfl) (fun _ _ _ h => h) (Or.inl ⟨by rfl, ?_⟩) hS ?_
  rotate_left
  · intro w hSw
    have s0 := hSw
    go_simp
    all_goals with_reducible rfl
  simp only [Act.put, List.setIfInBounds_toArray, List.set_cons_zero, List.set_cons_succ]
  refine wpAnyD_takeW (i := 5) (oi := { dst := some 20, op := Op.move (Operand.tmp 1), type := 3, pos := "ref.go:172", after := #[], guard := none }) (v := ?_) rfl (by kernel_rfl) (by kernel_rfl) (by kernel_rfl) (fun _ _ _ h => h) (Or.inl ⟨by rfl, ?_⟩) ?_
  rotate_left
  · intro w hSw
    clear hSw
    go_simp
    all_goals with_reducible rfl
  simp only [Act.put, List.setIfInBounds_toArray, List.set_cons_zero, List.set_cons_succ]
  refine wpAnyD_takeW (i := 6) (oi := { dst := some 21, op := Op.slice 82 (Operand.tmp 19) none (some (Operand.tmp 20)) none, type := 82, pos := "ref.go:172", after := #[{ on := 4, ground := Ground.data }, { on := 5, ground := Ground.data }], guard := none }) (v := ?_) rfl (by kernel_rfl) (by kernel_rfl) (by kernel_rfl) (fun _ _ _ h => h) (Or.inl ⟨by rfl, ?_⟩) ?_
  rotate_left
  · intro w hSw
    clear hSw
    go_simp
    all_goals with_reducible rfl
  simp only [Act.put, List.setIfInBounds_toArray, List.set_cons_zero, List.set_cons_succ]
  refine wpAnyD_takeW (i := 8) (oi := { dst := some 23, op := Op.move (Operand.tmp 0), type := 48, pos := "ref.go:172", after := #[], guard := none }) (v := ?_) rfl (by kernel_rfl) (by kernel_rfl) (by kernel_rfl) (fun _ _ _ h => h) (Or.inl ⟨by rfl, ?_⟩) ?_
  rotate_left
  · intro w hSw
    clear hSw
    go_simp
    all_goals with_reducible rfl
  simp only [Act.put, List.setIfInBounds_toArray, List.set_cons_zero, List.set_cons_succ]
  refine wpAnyD_takeW (i := 9) (oi := { dst := some 24, op := Op.nilCheck (Operand.tmp 23), type := 0, pos := "ref.go:172", after := #[{ on := 8, ground := Ground.data }], guard := none }) (v := ?_) rfl (by kernel_rfl) (by kernel_rfl) (by kernel_rfl) (fun _ _ _ h => h) (Or.inl ⟨by rfl, ?_⟩) ?_
  rotate_left
  · intro w hSw
    clear hSw
    go_simp
    all_goals with_reducible rfl
  simp only [Act.put, List.setIfInBounds_toArray, List.set_cons_zero, List.set_cons_succ]
  refine wpAnyD_takeW (i := 10) (oi := { dst := some 25, op := Op.fieldAddr 84 (Operand.tmp 24) 0, type := 0, pos := "ref.go:172", after := #[{ on := 9, ground := Ground.data }], guard := none }) (v := ?_) rfl (by kernel_rfl) (by kernel_rfl) (by kernel_rfl) (fun _ _ _ h => h) (Or.inl ⟨by rfl, ?_⟩) ?_
  rotate_left
  · intro w hSw
    clear hSw
    go_simp
    all_goals with_reducible rfl
  simp only [Act.put, List.setIfInBounds_toArray, List.set_cons_zero, List.set_cons_succ]
  refine wpAnyD_take (i := 11) (oi := { dst := some 26, op := Op.load 82 (Operand.tmp 25), type := 82, pos := "ref.go:172", after := #[{ on := 10, ground := Ground.data }], guard := none }) (v := ?_) rfl (by kernel_rfl) (by kernel_rfl) (by kernel_rfl) (by kernel_rfl) (by kernel_rfl) (fun _ _ _ h => h) (Or.inl ⟨by rfl, ?_⟩) hS ?_
  rotate_left
  · intro w hSw
    have s0 := hSw
    go_simp
    all_goals with_reducible rfl
  simp only [Act.put, List.setIfInBounds_toArray, List.set_cons_zero, List.set_cons_succ]
  refine wpAnyD_takeW (i := 12) (oi := { dst := some 27, op := Op.move (Operand.tmp 1), type := 3, pos := "ref.go:172", after := #[], guard := none }) (v := ?_) rfl (by kernel_rfl) (by kernel_rfl) (by kernel_rfl) (fun _ _ _ h => h) (Or.inl ⟨by rfl, ?_⟩) ?_
  rotate_left
  · intro w hSw
    clear hSw
    go_simp
    all_goals with_reducible rfl
  simp only [Act.put, List.setIfInBounds_toArray, List.set_cons_zero, List.set_cons_succ]
  refine wpAnyD_takeW (i := 13) (oi := { dst := some 28, op := Op.binOp BinOp.add 3 (Operand.tmp 27) (Operand.const (Value.int IntKind.i64 1)) 3, type := 3, pos := "ref.go:172", after := #[{ on := 12, ground := Ground.data }], guard := none }) (v := ?_) rfl (by kernel_rfl) (by kernel_rfl) (by kernel_rfl) (fun _ _ _ h => h) (Or.inl ⟨by rfl, ?_⟩) ?_
  rotate_left
  · intro w hSw
    clear hSw
    go_simp
    all_goals with_reducible rfl
  simp only [Act.put, List.setIfInBounds_toArray, List.set_cons_zero, List.set_cons_succ]
  refine wpAnyD_takeW (i := 14) (oi := { dst := some 29, op := Op.slice 82 (Operand.tmp 26) (some (Operand.tmp 28)) none none, type := 82, pos := "ref.go:172", after := #[{ on := 11, ground := Ground.data }, { on := 13, ground := Ground.data }], guard := none }) (v := ?_) rfl (by kernel_rfl) (by kernel_rfl) (by kernel_rfl) (fun _ _ _ h => h) (Or.inl ⟨by rfl, ?_⟩) ?_
  rotate_left
  · intro w hSw
    clear hSw
    go_simp
    all_goals with_reducible rfl
  simp only [Act.put, List.setIfInBounds_toArray, List.set_cons_zero, List.set_cons_succ]
  clear hS
  refine wpAnyD_one (i := 0) (o := { dst := some 15, op := Op.buildSlice 82 0 #[], type := 82, pos := "ref.go:172", after := #[], guard := none }) (by kernel_rfl) rfl (fun K hK => ?_)
  have b1 := hide (b0.out.alloc b0.out.size (.cells #[] 87))
  have E1 := hide (show Sl (w0.alloc (.cells #[] 87)) 87 3 (.slice (some ⟨w0.heap.size, 0, none⟩) 0 0) 0 [] from by simpa using (Sl.new w0 87 3 #[] 0 0 (Nat.le_refl _) (Nat.zero_le _) (Nat.le_refl _)))
  have V1 := hide (show ∀ g, (Value.slice (some ⟨w0.heap.size, 0, none⟩) 0 0).ownBlock = some g → w0.heap.size ≤ g from fun g hg => by
    cases hg
    exact Nat.le_refl _)
  go_simp
  refine hK _ _ (fun _ _ => HQ.out _ b1.out) ?_
  clear hK K
  try simp only [Act.put, List.setIfInBounds_toArray, List.set_cons_zero, List.set_cons_succ]
  refine wpAnyD_one (i := 7) (o := { dst := some 22, op := Op.call { callee := Callee.builtin Builtin.append, args := #[Operand.tmp 15, Operand.tmp 21], argTypes := #[82, 82] }, type := 82, pos := "ref.go:172", after := #[{ on := 0, ground := Ground.data }, { on := 6, ground := Ground.data }], guard := none }) (by kernel_rfl) rfl (fun K hK => ?_)
  refine step_append_w (by rfl) (.tmp 15) (.tmp 21) 82 rfl 87 i0 _ 3 32 Tryz.underlying82 hi hz0 hz1 hz2 rfl (.slice (some ⟨w0.heap.size, 0, none⟩) 0 0) (0) ([]) (by rfl) E1.out _ (by rfl) k (rows Rn.cells (s.l.take k)) (HFT.out _ b1.out) (rows_cells fun e _ => rn_one e) (by have := HN1.out; unfold maxLen; omega) (by have := HN1.out; omega) ?_
  intro v2 w2 hs2 ho2 hv2
  rw [Nat.zero_add, List.nil_append] at hs2
  have b2 := hide (b1.out.trans (ho2.below b1.out.size fun i hi => V1.out i hi))
  have E2 := hide hs2
  have V2 := hide (show ∀ g, v2.ownBlock = some g → w0.heap.size ≤ g from fun g hg => by
    rcases hv2 with e | e
    · exact V1.out g (by rw [← e]; exact hg)
    · rw [e] at hg
      cases hg
      exact b1.out.size)
  clear hs2 ho2 hv2
  refine hK _ _ (fun _ _ => HQ.out _ b2.out) ?_
  clear hK K
  try simp only [Act.put, List.setIfInBounds_toArray, List.set_cons_zero, List.set_cons_succ]
  refine wpAnyD_one (i := 15) (o := { dst := some 30, op := Op.call { callee := Callee.builtin Builtin.append, args := #[Operand.tmp 22, Operand.tmp 29], argTypes := #[82, 82] }, type := 82, pos := "ref.go:172", after := #[{ on := 7, ground := Ground.data }, { on := 14, ground := Ground.data }, { on := 7, ground := Ground.chain }], guard := none }) (by kernel_rfl) rfl (fun K hK => ?_)
  refine step_append_w (by rfl) (.tmp 22) (.tmp 29) 82 rfl 87 i0 _ 3 32 Tryz.underlying82 hi hz0 hz1 hz2 rfl v2 (k) (rows Rn.cells (s.l.take k)) (by rfl) E2.out _ (by rfl) (n - (k + 1)) (rows Rn.cells (s.l.drop (k + 1))) (HBK.out _ b2.out) (rows_cells fun e _ => rn_one e) (by have := HN1.out; unfold maxLen; omega) (by have := HN1.out; omega) ?_
  intro v3 w3 hs3 ho3 hv3
  have b3 := hide (b2.out.trans (ho3.below b2.out.size fun i hi => V2.out i hi))
  have E3 := hide hs3
  have V3 := hide (show ∀ g, v3.ownBlock = some g → w0.heap.size ≤ g from fun g hg => by
    rcases hv3 with e | e
    · exact V2.out g (by rw [← e]; exact hg)
    · rw [e] at hg
      cases hg
      exact b2.out.size)
  clear hs3 ho3 hv3
  refine hK _ _ (fun _ _ => HQ.out _ b3.out) ?_
  clear hK K
  try simp only [Act.put, List.setIfInBounds_toArray, List.set_cons_zero, List.set_cons_succ]
  have EF := hide (drp_sl HN.out HK.out E3.out)
  obtain ⟨Ax, cx, hvx, _⟩ := EF.out.form
  subst hvx
  refine wpAnyD_takeW (i := 16) (oi := { dst := some 7, op := Op.assign (Operand.tmp 30), type := 82, pos := "ref.go:172", after := #[{ on := 15, ground := Ground.data }, { on := 15, ground := Ground.chain }, { on := 0, ground := Ground.phase }, { on := 1, ground := Ground.phase }, { on := 2, ground := Ground.phase }, { on := 3, ground := Ground.phase }, { on := 4, ground := Ground.phase }, { on := 5, ground := Ground.phase }, { on := 6, ground := Ground.phase }, { on := 7, ground := Ground.phase }, { on := 8, ground := Ground.phase }, { on := 9, ground := Ground.phase }, { on := 10, ground := Ground.phase }, { on := 11, ground := Ground.phase }, { on := 12, ground := Ground.phase }, { on := 13, ground := Ground.phase }, { on := 14, ground := Ground.phase }, { on := 15, ground := Ground.phase }], guard := none }) (v := ?_) rfl (by kernel_rfl) (by kernel_rfl) (by kernel_rfl) (fun _ _ _ h => h) (Or.inl ⟨by rfl, ?_⟩) ?_
  rotate_left
  · intro w hSw
    clear hSw
    go_simp
    all_goals with_reducible rfl
  simp only [Act.put, List.setIfInBounds_toArray, List.set_cons_zero, List.set_cons_succ]
  refine wpAnyD_done (by kernel_rfl) ?_ _
  clear hi hz0 hz1 hz2
  generalize (if c = k + 1 then (some ⟨g, off, none⟩ : Option Addr) else some ⟨g, off + (k + 1) * 3, none⟩) = Bv
  obtain ⟨i0, hi, hz0, hz1, hz2⟩ := info_parts entry_info
  have HI := hide hi
  have HI0 := hide hz0
  have HI1 := hide hz1
  have HI2 := hide hz2
  obtain ⟨x0, x1, x2⟩ := HB1.out w3 b3.out
  obtain ⟨N, hN⟩ : ∃ N, N = (drp s.l k).length := ⟨_, rfl⟩
  have hEF := EF.out
  rw [← hN] at hEF V3 ⊢
  have HNN := hide hN
  have HE := hide hEF
  have hN1 : (N : Int) ≤ 1000 := by
    have := drp_len (l := s.l) (k := k) (by rw [← HN.out]; exact HK.out)
    have := HN.out
    omega
  have HNB := hide hN1
  have hA1 := hide (hEF.alloc (.cells #[.int .i64 (x.id : Int), .string x.name, .pointer (some ⟨x.b, 0, none⟩)] 87))
  have hxn : Rd (w3.alloc (.cells #[.int .i64 (x.id : Int), .string x.name, .pointer (some ⟨x.b, 0, none⟩)] 87)) (.slice (some ⟨w3.heap.size, 0, none⟩) 1 1) 3 1 x.cells := by
    have h9 := Sl.new w3 87 3 #[.int .i64 (x.id : Int), .string x.name, .pointer (some ⟨x.b, 0, none⟩)] 1 1 (Nat.le_refl _) (by unfold maxLen; omega) (by simp)
    exact h9.rd
  have HXN := hide hxn
  have HXS := hide (show Sl (w3.alloc (.cells #[.int .i64 (x.id : Int), .string x.name, .pointer (some ⟨x.b, 0, none⟩)] 87)) 87 3 (.slice (some ⟨w3.heap.size, 0, none⟩) 1 1) 1 x.cells from Sl.new w3 87 3 #[.int .i64 (x.id : Int), .string x.name, .pointer (some ⟨x.b, 0, none⟩)] 1 1 (Nat.le_refl _) (by unfold maxLen; omega) (by simp))
  have HBA := hide (b3.out.alloc b3.out.size (.cells #[.int .i64 (x.id : Int), .string x.name, .pointer (some ⟨x.b, 0, none⟩)] 87))
  have fz : w3.frozen? ⟨rb, 0, none⟩ = false := (H5.out.below b3.out).blk.frozen 0
  have HFZ := hide (fun (y : World) (hb : Below w0.heap.size w0 y) => (show y.frozen? ⟨rb, 0, none⟩ = false ∧ y.cell? ⟨rb, 0, none⟩ = some (.slice (some ⟨g, off, none⟩) n c) from ⟨(H5.out.below hb).blk.frozen 0, HQ.out y hb⟩))
  clear hi hz0 hz1 hz2 hN hEF hxn HFT HBK E1 E2 E3 V1 V2 b1 b2 HB1 EF
  cases front with
  | true =>
    go_wp2_with (at_builtin; refine wpList_append_sl rfl (.tmp 34) (.tmp 35) 82 rfl 87 i0 _ 3 32 Tryz.underlying82 HI.out HI0.out HI1.out HI2.out rfl _ 1 x.cells rfl HXS.out _ rfl N (rows Rn.cells (drp s.l k)) hA1.out.rd (rows_cells fun e _ => rn_one e) ?b1 ?b2 ?_)
    case b1 => unfold maxLen; omega
    case b2 => omega
    intro v8 w8 s8 o8 b8
    obtain ⟨B8, d8, rfl, _, _⟩ := Sl.form s8
    have hl8 : (x :: drp s.l k).length = 1 + N := by rw [List.length_cons, HNN.out]; omega
    have HS8 := hide (show Sl w8 87 3 (.slice B8 (1 + N) d8) (x :: drp s.l k).length (rows Rn.cells (x :: drp s.l k)) from by rw [hl8, rows_cons]; exact s8)
    have HB8 := hide (show Below w0.heap.size w0 w8 from HBA.out.trans (o8.below HBA.out.size fun i hi => by simp [Value.ownBlock] at hi; have := b3.out.size; omega))
    have HF8 := hide (show ∀ q, (Value.slice B8 (1 + N) d8).ownBlock = some q → w0.heap.size ≤ q from fun q hq => by
      have h9 := b3.out.size
      rcases b8 with h | h
      · rw [h] at hq
        simp [Value.ownBlock] at hq
        omega
      · rw [h] at hq
        simp at hq
        omega)
    obtain ⟨f8, c8⟩ := HFZ.out w8 HB8.out
    have HR := hide (H5.out.set HB8.out HS8.out HF8.out)
    clear s8 o8 b8 hl8
    go_wp2_with fail
    all_goals refine bodyPost_end (results_none rfl _ _ _) rfl ?_
    all_goals exact ⟨rfl, _, HR.out⟩
  | false =>
    go_wp2_with (at_builtin; refine wpList_append_sl rfl (.tmp 40) (.tmp 42) 82 rfl 87 i0 _ 3 32 Tryz.underlying82 HI.out HI0.out HI1.out HI2.out rfl _ N (rows Rn.cells (drp s.l k)) rfl hA1.out _ rfl 1 x.cells HXN.out (rn_one x) ?b1 ?b2 ?_)
    case b1 => unfold maxLen; omega
    case b2 => omega
    intro v8 w8 s8 o8 b8
    obtain ⟨B8, d8, rfl, _, _⟩ := Sl.form s8
    have hl8 : (drp s.l k ++ [x]).length = N + 1 := by rw [List.length_append, HNN.out]; rfl
    have HS8 := hide (show Sl w8 87 3 (.slice B8 (N + 1) d8) (drp s.l k ++ [x]).length (rows Rn.cells (drp s.l k ++ [x])) from by rw [hl8, rows_append, rows_one]; exact s8)
    have HB8 := hide (show Below w0.heap.size w0 w8 from HBA.out.trans (o8.below HBA.out.size fun i hi => V3.out i hi))
    have HF8 := hide (show ∀ q, (Value.slice B8 (N + 1) d8).ownBlock = some q → w0.heap.size ≤ q from fun q hq => by
      have h9 := b3.out.size
      rcases b8 with h | h
      · exact V3.out q (by rw [← h]; exact hq)
      · rw [h] at hq
        simp at hq
        omega)
    obtain ⟨f8, c8⟩ := HFZ.out w8 HB8.out
    have HR := hide (H5.out.set HB8.out HS8.out HF8.out)
    clear s8 o8 b8 hl8
    go_wp2_with fail
    all_goals refine bodyPost_end (results_none rfl _ _ _) rfl ?_
    all_goals exact ⟨rfl, _, HR.out⟩
end
end Go.Proofs.YtnbhejbpofjamaaGreatDoor
namespace Go.Proofs.YtnbhejbpofjamaaGreatDoor
open Go.RowKit

section
variable {W w w' : World} {rb : Nat} {v : Value} {s : Rst} {X Y : Heap}
def MovedR (W : World) (rb : Nat) (v : Value) (s : Rst) (id : Int) (f : Nat → Rn → Rst) (X : Heap) (e : Ending) (w' : World) : Prop :=
  (e = .returned (.int .i64 8) ∧ (∀ x ∈ s.l, (x.id : Int) ≠ id) ∧ RAt W w' rb v s X) ∨ ∃ k x, s.l[k]? = some x ∧ (x.id : Int) = id ∧ e = .returned (.int .i64 0) ∧ ∃ v', RAt W w' rb v' (f k x) X
set_option maxRecDepth 100000 in
set_option maxHeartbeats 4000000 in
theorem rswitch_any (h : RAt W w rb v s X) (id : Int) (hl : s.l.length ≤ 1000) : Calls Tryz.prog 54 #[.pointer (some ⟨rb, 0, none⟩), .int .i64 id] w (MovedR W rb v s id (fun k x => ⟨mov s.l k x true, s.nx, x.id⟩) X) := by
  have HE := hide (renter_any h id hl)
  have HL := hide hl
  clear h hl
  go_enter Tryz.func54, Tryz.ntmps54
  go_wp2_with fail
  refine Calls.mono HE.out ?_
  rintro e w1 (⟨rfl, hno, h1⟩ | ⟨x, hx, hxi, rfl, h1⟩)
  · have HNO := hide hno
    have H1 := hide h1
    clear hno h1
    go_wp2_with fail
    go_ret
    exact .inl ⟨rfl, HNO.out, H1.out⟩
  · have H1 := hide h1
    have HX := hide hx
    have HXI := hide hxi
    clear hx hxi h1
    go_wp2_with fail
    refine Calls.mono (rfindid_any H1.out id HL.out) ?_
    rintro e w2 ⟨i, rfl, hi, rfl⟩
    rcases hi with ⟨rfl, hno⟩ | ⟨k, y, rfl, hy, hyi⟩
    · exact absurd HXI.out (hno x HX.out)
    · have HY := hide hy
      have HYI := hide hyi
      have HM := hide (rmove_any H1.out HL.out HY.out true)
      clear hy hyi
      go_wp2_with fail
      refine Calls.mono HM.out ?_
      rintro e w3 ⟨rfl, v3, h3⟩
      have H3 := hide h3
      clear h3
      go_wp2_with fail
      go_ret
      refine .inr ⟨k, y, HY.out, HYI.out, rfl, v3, ?_⟩
      have e1 : x.id = y.id := by have := HXI.out; have := HYI.out; omega
      have h9 := H3.out
      rw [e1] at h9
      exact h9
set_option maxRecDepth 100000 in
set_option maxHeartbeats 4000000 in
theorem rbury_any (h : RAt W w rb v s X) (id : Int) (hl : s.l.length ≤ 1000) : Calls Tryz.prog 55 #[.pointer (some ⟨rb, 0, none⟩), .int .i64 id] w (MovedR W rb v s id (fun k x => ⟨mov s.l k x false, s.nx, s.cu⟩) X) := by
  have HE := hide (rfindid_any h id hl)
  have H := hide h
  have HL := hide hl
  clear h hl
  go_enter Tryz.func55, Tryz.ntmps55
  go_wp2_with fail
  refine Calls.mono HE.out ?_
  rintro e w1 ⟨i, rfl, hi, rfl⟩
  rcases hi with ⟨rfl, hno⟩ | ⟨k, y, rfl, hy, hyi⟩
  · have HNO := hide hno
    clear hno
    go_wp2_with fail
    go_ret
    exact .inl ⟨rfl, HNO.out, H.out⟩
  · have HY := hide hy
    have HYI := hide hyi
    have HM := hide (rmove_any H.out HL.out HY.out false)
    have y1 : decide ((k : Int) < 0) = false := by simp
    clear hy hyi
    go_wp2_with fail
    refine Calls.mono HM.out ?_
    rintro e w3 ⟨rfl, v3, h3⟩
    have H3 := hide h3
    clear h3
    go_wp2_with fail
    go_ret
    exact .inr ⟨k, y, HY.out, HYI.out, rfl, v3, H3.out⟩
theorem RAt.setName {g off n c k : Nat} {x : Rn} (h : RAt W w rb (.slice (some ⟨g, off, none⟩) n c) s X) (hn : n = s.l.length) (hx : s.l[k]? = some x) (nm : ByteArray) : RAt W (w.setCell ⟨g, off + (k * 3 + 1), none⟩ (.string nm)) rb (.slice (some ⟨g, off, none⟩) n c) { s with l := s.l.set k { x with name := nm } } X ∧ w.frozen? ⟨g, off + (k * 3 + 1), none⟩ = false := by
  subst hn
  have hk := (List.getElem?_eq_some_iff.1 hx).1
  have h0 := h.own
  have e0 : rsHead rb (.slice (some ⟨g, off, none⟩) s.l.length c) s ++ X = (rb, Ast.cells 84 (rsC (.slice (some ⟨g, off, none⟩) s.l.length c) s)) :: (g, Ast.row 87 3 (.slice (some ⟨g, off, none⟩) s.l.length c) s.l.length (rows Rn.cells s.l)) :: X := rfl
  rw [e0] at h0
  have h1 := h0.perm (List.Perm.swap _ _ _)
  have hlen : k * 3 + 1 < (rows Rn.cells s.l).length := by rw [rows_len rn_len]; omega
  have h2 := (h1.setRow (k * 3 + 1) hlen (.string nm)).perm (List.Perm.swap _ _ _)
  have e2 : (rows Rn.cells s.l).set (k * 3 + 1) (.string nm) = rows Rn.cells (s.l.set k { x with name := nm }) := rows_set rn_len { x with name := nm } 1 (.string nm) s.l k x hx (by omega) rfl
  rw [e2] at h2
  refine ⟨⟨?_, RowOk.some (g := g) rfl⟩, ?_⟩
  · have e3 : rsHead rb (.slice (some ⟨g, off, none⟩) s.l.length c) { s with l := s.l.set k { x with name := nm } } ++ X = (rb, Ast.cells 84 (rsC (.slice (some ⟨g, off, none⟩) s.l.length c) s)) :: (g, Ast.row 87 3 (.slice (some ⟨g, off, none⟩) s.l.length c) (s.l.set k { x with name := nm }).length (rows Rn.cells (s.l.set k { x with name := nm }))) :: X := rfl
    rw [e3, List.length_set]
    exact h2
  · have h9 := (h1.row (List.mem_cons_self ..)).2.2
    rcases h9 with ⟨e, _⟩ | ⟨g', off', cap, cs, e, hg, _⟩
    · cases e
    · injection e with e1 _ _
      injection e1 with e1
      injection e1 with e2 e3
      rw [e2]
      simp [World.frozen?, hg]
theorem RAt.push {v' : Value} {l' : List Rn} (h : RAt W w rb v s X) (hs : Sl w' 87 3 v' l'.length (rows Rn.cells l')) (ho : Only (fun b => v.ownBlock = some b) w w') (hv : v'.ownBlock = v.ownBlock ∨ v'.ownBlock = some w.heap.size) :
    Blk w' rb 84 (rsC v s) ∧ RAt W (w'.setCell ⟨rb, 0, none⟩ v') rb v' { s with l := l' } X := by
  have h1 : Own W w (rsRow v s.l ++ ((rb, Ast.cells 84 (rsC v s)) :: X)) := h.own.perm (by
    show List.Perm ((rb, Ast.cells 84 (rsC v s)) :: (rsRow v s.l ++ X)) _
    exact List.perm_middle.symm)
  have h2 := h1.appended hs ho hv
  have h3 := h2.perm (List.perm_middle)
  exact ⟨h3.blk (List.mem_cons_self ..), ⟨h3.setCell 0 v', hs.rowOk⟩⟩
theorem RAt.setNx (h : RAt W w rb v s X) (c : Nat) : RAt W (w.setCell ⟨rb, 1, none⟩ (.int .i64 (c : Int))) rb v { s with nx := c } X := ⟨Own.setCell h.own 1 (.int .i64 (c : Int)), h.ok⟩
theorem RAt.five (h : RAt W w rb v s X) : w.cell? ⟨rb, 0, none⟩ = some v ∧ w.cell? ⟨rb, 1, none⟩ = some (.int .i64 (s.nx : Int)) ∧ w.cell? ⟨rb, 3, none⟩ = some (.int .i64 1) ∧ w.cell? ⟨rb, 4, none⟩ = some (.int .i64 2) ∧ w.cell? ⟨rb, 5, none⟩ = some (.int .i64 3) := ⟨(h.blk.cell 0).trans rfl, (h.blk.cell 1).trans rfl, (h.blk.cell 3).trans rfl, (h.blk.cell 4).trans rfl, (h.blk.cell 5).trans rfl⟩
def creR (s : Rst) (n : ByteArray) : Int := if chkE n ≠ 0 then chkE n else if hasR s.l n = true then 17 else if 200 ≤ s.l.length then 7 else 0
def CreR (W : World) (rb : Nat) (v : Value) (s : Rst) (n : ByteArray) (X : Heap) (e : Ending) (w' : World) : Prop :=
  e = .returned (.tuple #[.int .i64 (if creR s n = 0 then (s.nx : Int) else 0), .int .i64 (creR s n)]) ∧ (creR s n ≠ 0 → RAt W w' rb v s X) ∧ (creR s n = 0 → ∃ v' z, RAt W w' rb v' ⟨s.l ++ [⟨s.nx, n, z.bp⟩], s.nx + 1, s.cu⟩ (yHeap z ⟨[], 0, 1, 2, 3⟩ ++ X) ∧ YOk z ⟨[], 0, 1, 2, 3⟩)
theorem CreR.bad {n : ByteArray} {E : Int} (hE : creR s n = E) (h0 : E ≠ 0) (h : RAt W w' rb v s X) : CreR W rb v s n X (.returned (.tuple #[.int .i64 0, .int .i64 E])) w' := by
  subst hE
  exact ⟨by rw [if_neg h0], fun _ => h, fun h9 => absurd h9 h0⟩
set_option maxRecDepth 100000 in
set_option maxHeartbeats 16000000 in
theorem rcreate_any (h : RAt W w rb v s X) (hl : s.l.length ≤ 1000) (hx : s.nx ≤ 1000000) (nm : ByteArray) (hs : nm.size ≤ 1000000) : Calls Tryz.prog 50 #[.pointer (some ⟨rb, 0, none⟩), .string nm] w (CreR W rb v s nm X) := by
  have HC := hide (rcheck26_any nm w hs)
  have H := hide h
  have HL := hide hl
  obtain ⟨E, hE⟩ : ∃ E, E = chkE nm := ⟨_, rfl⟩
  rw [← hE] at HC
  by_cases h0 : E = 0
  · have z1 : (E != 0) = false := by simpa using h0
    have z2 : decide (E = 0) = true := by simpa using h0
    have HE0 := hide (show chkE nm = 0 by rw [← hE]; exact h0)
    have HX := hide hx
    clear h hl hx hs hE
    subst h0
    go_enter Tryz.func50, Tryz.ntmps50
    go_wp2_with fail
    refine Calls.mono HC.out ?_
    rintro e w1 ⟨rfl, b1⟩
    have H1 := hide (H.out.below b1)
    clear b1
    go_wp2_with fail
    refine Calls.mono (rfindn_any H1.out nm HL.out) ?_
    rintro e w2 ⟨u, rfl, hu, rfl⟩
    rcases hu with ⟨rfl, hno⟩ | ⟨x, hx, hxn, rfl⟩
    · have HNO := hide (hasR_false.2 hno)
      obtain ⟨l, nx, cu⟩ := s
      simp only [] at HL HX HNO
      obtain ⟨c0, c1, _⟩ := H1.out.cells
      obtain ⟨A, c, hv, _, _⟩ := H1.out.sl.form
      simp only [] at hv c0 c1
      obtain ⟨n, hn⟩ : ∃ n, n = l.length := ⟨_, rfl⟩
      rw [← hn] at hv
      subst hv
      have HN := hide hn
      have hn1 : (n : Int) ≤ 1000 := by have := HL.out; omega
      have HN1 := hide (show n ≤ 1000 by omega)
      clear hno hn
      by_cases hf : 200 ≤ n
      · have y1 : decide ((200 : Int) ≤ (n : Int)) = true := by simp; omega
        have y2 : decide (200 ≤ n) = true := by simpa using hf
        have HE := hide (show creR ⟨l, nx, cu⟩ nm = 7 from by unfold creR; rw [HE0.out, if_neg (by decide), HNO.out, if_neg (by decide), if_pos (by rw [← HN.out]; exact hf)])
        clear hf
        go_wp2_with fail
        go_ret2
        exact CreR.bad HE.out (by decide) H1.out
      · have y1 : decide ((200 : Int) ≤ (n : Int)) = false := by simp; omega
        have y2 : decide (200 ≤ n) = false := by simpa using hf
        have HE := hide (show creR ⟨l, nx, cu⟩ nm = 0 from by unfold creR; rw [HE0.out, if_neg (by decide), HNO.out, if_neg (by decide), if_neg (by rw [← HN.out]; exact hf)])
        clear hf
        go_upto_region 9 with fail
        have HS5 := hide (fun (y : World) (X' : Heap) (hy : RAt W y rb (.slice A n c) ⟨l, nx, cu⟩ X') => (show (y.cell? ⟨rb, 0, none⟩ = some (.slice A n c) ∧ y.cell? ⟨rb, 1, none⟩ = some (.int .i64 (nx : Int)) ∧ y.cell? ⟨rb, 3, none⟩ = some (.int .i64 1) ∧ y.cell? ⟨rb, 4, none⟩ = some (.int .i64 2) ∧ y.cell? ⟨rb, 5, none⟩ = some (.int .i64 3)) from hy.five))
        have H2 := hide (H1.out.below (Below.refl _ w1).drew)
        refine wp_region_d (S := fun y => (y.cell? ⟨rb, 0, none⟩ = some (.slice A n c) ∧ y.cell? ⟨rb, 1, none⟩ = some (.int .i64 (nx : Int)) ∧ y.cell? ⟨rb, 3, none⟩ = some (.int .i64 1) ∧ y.cell? ⟨rb, 4, none⟩ = some (.int .i64 2) ∧ y.cell? ⟨rb, 5, none⟩ = some (.int .i64 3))) (D := [31]) (by kernel_rfl) ?_
        change wpAnyD _ _ _ _ _ _ _ _ _ w1.drew
        generalize w1.drew = w2 at H2 ⊢
        have hS := HS5.out _ _ H2.out
        refine wpAnyD_takeW (i := 0) (oi := { dst := some 27, op := Op.move (Operand.tmp 0), type := 48, pos := "ref.go:67", after := #[], guard := none }) (v := ?_) rfl (by kernel_rfl) (by kernel_rfl) (by kernel_rfl) (fun _ _ _ h => h) (Or.inl ⟨by rfl, ?_⟩) ?_
        rotate_left
        · intro w hSw
          clear hSw
          go_simp
          all_goals with_reducible rfl
        simp only [Act.put, List.setIfInBounds_toArray, List.set_cons_zero, List.set_cons_succ]
        refine wpAnyD_takeW (i := 1) (oi := { dst := some 28, op := Op.move (Operand.tmp 0), type := 48, pos := "ref.go:67", after := #[], guard := none }) (v := ?_) rfl (by kernel_rfl) (by kernel_rfl) (by kernel_rfl) (fun _ _ _ h => h) (Or.inl ⟨by rfl, ?_⟩) ?_
        rotate_left
        · intro w hSw
          clear hSw
          go_simp
          all_goals with_reducible rfl
        simp only [Act.put, List.setIfInBounds_toArray, List.set_cons_zero, List.set_cons_succ]
        refine wpAnyD_takeW (i := 2) (oi := { dst := some 29, op := Op.nilCheck (Operand.tmp 28), type := 0, pos := "ref.go:67", after := #[{ on := 1, ground := Ground.data }], guard := none }) (v := ?_) rfl (by kernel_rfl) (by kernel_rfl) (by kernel_rfl) (fun _ _ _ h => h) (Or.inl ⟨by rfl, ?_⟩) ?_
        rotate_left
        · intro w hSw
          clear hSw
          go_simp
          all_goals with_reducible rfl
        simp only [Act.put, List.setIfInBounds_toArray, List.set_cons_zero, List.set_cons_succ]
        refine wpAnyD_takeW (i := 3) (oi := { dst := some 30, op := Op.fieldAddr 84 (Operand.tmp 29) 0, type := 0, pos := "ref.go:67", after := #[{ on := 2, ground := Ground.data }], guard := none }) (v := ?_) rfl (by kernel_rfl) (by kernel_rfl) (by kernel_rfl) (fun _ _ _ h => h) (Or.inl ⟨by rfl, ?_⟩) ?_
        rotate_left
        · intro w hSw
          clear hSw
          go_simp
          all_goals with_reducible rfl
        simp only [Act.put, List.setIfInBounds_toArray, List.set_cons_zero, List.set_cons_succ]
        refine wpAnyD_take (i := 4) (oi := { dst := some 31, op := Op.load 82 (Operand.tmp 30), type := 82, pos := "ref.go:67", after := #[{ on := 3, ground := Ground.data }], guard := none }) (v := ?_) rfl (by kernel_rfl) (by kernel_rfl) (by kernel_rfl) (by kernel_rfl) (by kernel_rfl) (fun _ _ _ h => h) (Or.inl ⟨by rfl, ?_⟩) hS ?_
        rotate_left
        · intro w hSw
          obtain ⟨s0, s1, s2, s3, s4⟩ := hSw
          go_simp
          all_goals with_reducible rfl
        simp only [Act.put, List.setIfInBounds_toArray, List.set_cons_zero, List.set_cons_succ]
        refine wpAnyD_takeW (i := 5) (oi := { dst := some 32, op := Op.move (Operand.tmp 0), type := 48, pos := "ref.go:67", after := #[], guard := none }) (v := ?_) rfl (by kernel_rfl) (by kernel_rfl) (by kernel_rfl) (fun _ _ _ h => h) (Or.inl ⟨by rfl, ?_⟩) ?_
        rotate_left
        · intro w hSw
          clear hSw
          go_simp
          all_goals with_reducible rfl
        simp only [Act.put, List.setIfInBounds_toArray, List.set_cons_zero, List.set_cons_succ]
        refine wpAnyD_takeW (i := 6) (oi := { dst := some 33, op := Op.nilCheck (Operand.tmp 32), type := 0, pos := "ref.go:67", after := #[{ on := 5, ground := Ground.data }], guard := none }) (v := ?_) rfl (by kernel_rfl) (by kernel_rfl) (by kernel_rfl) (fun _ _ _ h => h) (Or.inl ⟨by rfl, ?_⟩) ?_
        rotate_left
        · intro w hSw
          clear hSw
          go_simp
          all_goals with_reducible rfl
        simp only [Act.put, List.setIfInBounds_toArray, List.set_cons_zero, List.set_cons_succ]
        refine wpAnyD_takeW (i := 7) (oi := { dst := some 34, op := Op.fieldAddr 84 (Operand.tmp 33) 1, type := 0, pos := "ref.go:67", after := #[{ on := 6, ground := Ground.data }], guard := none }) (v := ?_) rfl (by kernel_rfl) (by kernel_rfl) (by kernel_rfl) (fun _ _ _ h => h) (Or.inl ⟨by rfl, ?_⟩) ?_
        rotate_left
        · intro w hSw
          clear hSw
          go_simp
          all_goals with_reducible rfl
        simp only [Act.put, List.setIfInBounds_toArray, List.set_cons_zero, List.set_cons_succ]
        refine wpAnyD_take (i := 8) (oi := { dst := some 35, op := Op.load 3 (Operand.tmp 34), type := 3, pos := "ref.go:67", after := #[{ on := 7, ground := Ground.data }], guard := none }) (v := ?_) rfl (by kernel_rfl) (by kernel_rfl) (by kernel_rfl) (by kernel_rfl) (by kernel_rfl) (fun _ _ _ h => h) (Or.inl ⟨by rfl, ?_⟩) hS ?_
        rotate_left
        · intro w hSw
          obtain ⟨s0, s1, s2, s3, s4⟩ := hSw
          go_simp
          all_goals with_reducible rfl
        simp only [Act.put, List.setIfInBounds_toArray, List.set_cons_zero, List.set_cons_succ]
        refine wpAnyD_takeW (i := 9) (oi := { dst := some 36, op := Op.move (Operand.tmp 1), type := 9, pos := "ref.go:67", after := #[], guard := none }) (v := ?_) rfl (by kernel_rfl) (by kernel_rfl) (by kernel_rfl) (fun _ _ _ h => h) (Or.inl ⟨by rfl, ?_⟩) ?_
        rotate_left
        · intro w hSw
          clear hSw
          go_simp
          all_goals with_reducible rfl
        simp only [Act.put, List.setIfInBounds_toArray, List.set_cons_zero, List.set_cons_succ]
        refine wpAnyD_takeW (i := 10) (oi := { dst := some 37, op := Op.move (Operand.tmp 0), type := 48, pos := "ref.go:67", after := #[], guard := none }) (v := ?_) rfl (by kernel_rfl) (by kernel_rfl) (by kernel_rfl) (fun _ _ _ h => h) (Or.inl ⟨by rfl, ?_⟩) ?_
        rotate_left
        · intro w hSw
          clear hSw
          go_simp
          all_goals with_reducible rfl
        simp only [Act.put, List.setIfInBounds_toArray, List.set_cons_zero, List.set_cons_succ]
        refine wpAnyD_takeW (i := 11) (oi := { dst := some 38, op := Op.nilCheck (Operand.tmp 37), type := 0, pos := "ref.go:67", after := #[{ on := 10, ground := Ground.data }], guard := none }) (v := ?_) rfl (by kernel_rfl) (by kernel_rfl) (by kernel_rfl) (fun _ _ _ h => h) (Or.inl ⟨by rfl, ?_⟩) ?_
        rotate_left
        · intro w hSw
          clear hSw
          go_simp
          all_goals with_reducible rfl
        simp only [Act.put, List.setIfInBounds_toArray, List.set_cons_zero, List.set_cons_succ]
        refine wpAnyD_takeW (i := 12) (oi := { dst := some 39, op := Op.fieldAddr 84 (Operand.tmp 38) 3, type := 0, pos := "ref.go:67", after := #[{ on := 11, ground := Ground.data }], guard := none }) (v := ?_) rfl (by kernel_rfl) (by kernel_rfl) (by kernel_rfl) (fun _ _ _ h => h) (Or.inl ⟨by rfl, ?_⟩) ?_
        rotate_left
        · intro w hSw
          clear hSw
          go_simp
          all_goals with_reducible rfl
        simp only [Act.put, List.setIfInBounds_toArray, List.set_cons_zero, List.set_cons_succ]
        refine wpAnyD_takeW (i := 13) (oi := { dst := some 40, op := Op.indexAddr 70 (Operand.tmp 39) (Operand.const (Value.int IntKind.i64 0)), type := 0, pos := "ref.go:67", after := #[{ on := 12, ground := Ground.data }], guard := none }) (v := ?_) rfl (by kernel_rfl) (by kernel_rfl) (by kernel_rfl) (fun _ _ _ h => h) (Or.inl ⟨by rfl, ?_⟩) ?_
        rotate_left
        · intro w hSw
          clear hSw
          go_simp
          all_goals with_reducible rfl
        simp only [Act.put, List.setIfInBounds_toArray, List.set_cons_zero, List.set_cons_succ]
        refine wpAnyD_take (i := 14) (oi := { dst := some 41, op := Op.load 3 (Operand.tmp 40), type := 3, pos := "ref.go:67", after := #[{ on := 13, ground := Ground.data }], guard := none }) (v := ?_) rfl (by kernel_rfl) (by kernel_rfl) (by kernel_rfl) (by kernel_rfl) (by kernel_rfl) (fun _ _ _ h => h) (Or.inl ⟨by rfl, ?_⟩) hS ?_
        rotate_left
        · intro w hSw
          obtain ⟨s0, s1, s2, s3, s4⟩ := hSw
          go_simp
          all_goals with_reducible rfl
        simp only [Act.put, List.setIfInBounds_toArray, List.set_cons_zero, List.set_cons_succ]
        refine wpAnyD_takeW (i := 15) (oi := { dst := some 42, op := Op.move (Operand.tmp 0), type := 48, pos := "ref.go:67", after := #[], guard := none }) (v := ?_) rfl (by kernel_rfl) (by kernel_rfl) (by kernel_rfl) (fun _ _ _ h => h) (Or.inl ⟨by rfl, ?_⟩) ?_
        rotate_left
        · intro w hSw
          clear hSw
          go_simp
          all_goals with_reducible rfl
        simp only [Act.put, List.setIfInBounds_toArray, List.set_cons_zero, List.set_cons_succ]
        refine wpAnyD_takeW (i := 16) (oi := { dst := some 43, op := Op.nilCheck (Operand.tmp 42), type := 0, pos := "ref.go:67", after := #[{ on := 15, ground := Ground.data }], guard := none }) (v := ?_) rfl (by kernel_rfl) (by kernel_rfl) (by kernel_rfl) (fun _ _ _ h => h) (Or.inl ⟨by rfl, ?_⟩) ?_
        rotate_left
        · intro w hSw
          clear hSw
          go_simp
          all_goals with_reducible rfl
        simp only [Act.put, List.setIfInBounds_toArray, List.set_cons_zero, List.set_cons_succ]
        refine wpAnyD_takeW (i := 17) (oi := { dst := some 44, op := Op.fieldAddr 84 (Operand.tmp 43) 3, type := 0, pos := "ref.go:67", after := #[{ on := 16, ground := Ground.data }], guard := none }) (v := ?_) rfl (by kernel_rfl) (by kernel_rfl) (by kernel_rfl) (fun _ _ _ h => h) (Or.inl ⟨by rfl, ?_⟩) ?_
        rotate_left
        · intro w hSw
          clear hSw
          go_simp
          all_goals with_reducible rfl
        simp only [Act.put, List.setIfInBounds_toArray, List.set_cons_zero, List.set_cons_succ]
        refine wpAnyD_takeW (i := 18) (oi := { dst := some 45, op := Op.indexAddr 70 (Operand.tmp 44) (Operand.const (Value.int IntKind.i64 1)), type := 0, pos := "ref.go:67", after := #[{ on := 17, ground := Ground.data }], guard := none }) (v := ?_) rfl (by kernel_rfl) (by kernel_rfl) (by kernel_rfl) (fun _ _ _ h => h) (Or.inl ⟨by rfl, ?_⟩) ?_
        rotate_left
        · intro w hSw
          clear hSw
          go_simp
          all_goals with_reducible rfl
        simp only [Act.put, List.setIfInBounds_toArray, List.set_cons_zero, List.set_cons_succ]
        refine wpAnyD_take (i := 19) (oi := { dst := some 46, op := Op.load 3 (Operand.tmp 45), type := 3, pos := "ref.go:67", after := #[{ on := 18, ground := Ground.data }], guard := none }) (v := ?_) rfl (by kernel_rfl) (by kernel_rfl) (by kernel_rfl) (by kernel_rfl) (by kernel_rfl) (fun _ _ _ h => h) (Or.inl ⟨by rfl, ?_⟩) hS ?_
        rotate_left
        · intro w hSw
          obtain ⟨s0, s1, s2, s3, s4⟩ := hSw
          go_simp
          all_goals with_reducible rfl
        simp only [Act.put, List.setIfInBounds_toArray, List.set_cons_zero, List.set_cons_succ]
        refine wpAnyD_takeW (i := 20) (oi := { dst := some 47, op := Op.move (Operand.tmp 0), type := 48, pos := "ref.go:67", after := #[], guard := none }) (v := ?_) rfl (by kernel_rfl) (by kernel_rfl) (by kernel_rfl) (fun _ _ _ h => h) (Or.inl ⟨by rfl, ?_⟩) ?_
        rotate_left
        · intro w hSw
          clear hSw
          go_simp
          all_goals with_reducible rfl
        simp only [Act.put, List.setIfInBounds_toArray, List.set_cons_zero, List.set_cons_succ]
        refine wpAnyD_takeW (i := 21) (oi := { dst := some 48, op := Op.nilCheck (Operand.tmp 47), type := 0, pos := "ref.go:67", after := #[{ on := 20, ground := Ground.data }], guard := none }) (v := ?_) rfl (by kernel_rfl) (by kernel_rfl) (by kernel_rfl) (fun _ _ _ h => h) (Or.inl ⟨by rfl, ?_⟩) ?_
        rotate_left
        · intro w hSw
          clear hSw
          go_simp
          all_goals with_reducible rfl
        simp only [Act.put, List.setIfInBounds_toArray, List.set_cons_zero, List.set_cons_succ]
        refine wpAnyD_takeW (i := 22) (oi := { dst := some 49, op := Op.fieldAddr 84 (Operand.tmp 48) 3, type := 0, pos := "ref.go:67", after := #[{ on := 21, ground := Ground.data }], guard := none }) (v := ?_) rfl (by kernel_rfl) (by kernel_rfl) (by kernel_rfl) (fun _ _ _ h => h) (Or.inl ⟨by rfl, ?_⟩) ?_
        rotate_left
        · intro w hSw
          clear hSw
          go_simp
          all_goals with_reducible rfl
        simp only [Act.put, List.setIfInBounds_toArray, List.set_cons_zero, List.set_cons_succ]
        refine wpAnyD_takeW (i := 23) (oi := { dst := some 50, op := Op.indexAddr 70 (Operand.tmp 49) (Operand.const (Value.int IntKind.i64 2)), type := 0, pos := "ref.go:67", after := #[{ on := 22, ground := Ground.data }], guard := none }) (v := ?_) rfl (by kernel_rfl) (by kernel_rfl) (by kernel_rfl) (fun _ _ _ h => h) (Or.inl ⟨by rfl, ?_⟩) ?_
        rotate_left
        · intro w hSw
          clear hSw
          go_simp
          all_goals with_reducible rfl
        simp only [Act.put, List.setIfInBounds_toArray, List.set_cons_zero, List.set_cons_succ]
        refine wpAnyD_take (i := 24) (oi := { dst := some 51, op := Op.load 3 (Operand.tmp 50), type := 3, pos := "ref.go:67", after := #[{ on := 23, ground := Ground.data }], guard := none }) (v := ?_) rfl (by kernel_rfl) (by kernel_rfl) (by kernel_rfl) (by kernel_rfl) (by kernel_rfl) (fun _ _ _ h => h) (Or.inl ⟨by rfl, ?_⟩) hS ?_
        rotate_left
        · intro w hSw
          obtain ⟨s0, s1, s2, s3, s4⟩ := hSw
          go_simp
          all_goals with_reducible rfl
        simp only [Act.put, List.setIfInBounds_toArray, List.set_cons_zero, List.set_cons_succ]
        refine wpAnyD_one (i := 25) (o := { dst := some 52, op := Op.call { callee := Callee.value (Operand.func 74), args := #[Operand.tmp 41, Operand.tmp 46, Operand.tmp 51], argTypes := #[3, 3, 3] }, type := 51, pos := "ref.go:67", after := #[{ on := 14, ground := Ground.data }, { on := 19, ground := Ground.data }, { on := 24, ground := Ground.data }], guard := none }) (by kernel_rfl) rfl (fun K hK => ?_)
        go_simp
        (with_reducible refine Calls.mono (ynew_any H2.out.own 1 2 3) ?_)
        rintro e9 w3 ⟨z, rfl, hz, kz⟩
        have HZ := hide kz
        have H3 := hide (show RAt W w3 rb (.slice A n c) ⟨l, nx, cu⟩ (yHeap z ⟨[], 0, 1, 2, 3⟩ ++ X) from H2.out.reX (hz.perm (List.perm_append_comm_assoc _ _ _)))
        obtain ⟨bp, hbp⟩ : ∃ q, q = z.bp := ⟨_, rfl⟩
        rw [← hbp]
        have HBP := hide hbp
        clear hz kz hbp hS
        have hS := HS5.out _ _ H3.out
        refine hK _ _ (fun _ _ => hS) ?_
        clear hK K
        try simp only [Act.put, List.setIfInBounds_toArray, List.set_cons_zero, List.set_cons_succ]
        refine wpAnyD_takeW (i := 26) (oi := { dst := some 53, op := Op.build 87 #[(0, Operand.tmp 35), (1, Operand.tmp 36), (2, Operand.tmp 52)], type := 87, pos := "ref.go:67", after := #[{ on := 8, ground := Ground.data }, { on := 9, ground := Ground.data }, { on := 25, ground := Ground.data }], guard := none }) (v := ?_) rfl (by kernel_rfl) (by kernel_rfl) (by kernel_rfl) (fun _ _ _ h => h) (Or.inl ⟨by rfl, ?_⟩) ?_
        rotate_left
        · intro w hSw
          clear hSw
          go_simp
          all_goals with_reducible rfl
        simp only [Act.put, List.setIfInBounds_toArray, List.set_cons_zero, List.set_cons_succ]
        have H4 := hide (H3.out.below (below_box w3 (.cells #[.int .i64 (nx : Int), .string nm, .pointer (some ⟨bp, 0, none⟩)] 87)))
        have HXN := hide (show Rd (w3.alloc (.cells #[.int .i64 (nx : Int), .string nm, .pointer (some ⟨bp, 0, none⟩)] 87)) (.slice (some ⟨w3.heap.size, 0, none⟩) 1 1) 3 1 (Rn.cells ⟨nx, nm, bp⟩) from (show Sl (w3.alloc (.cells #[.int .i64 (nx : Int), .string nm, .pointer (some ⟨bp, 0, none⟩)] 87)) 87 3 (.slice (some ⟨w3.heap.size, 0, none⟩) 1 1) 1 (Rn.cells ⟨nx, nm, bp⟩) from Sl.new w3 87 3 #[.int .i64 (nx : Int), .string nm, .pointer (some ⟨bp, 0, none⟩)] 1 1 (Nat.le_refl _) (by unfold maxLen; omega) (by simp)).rd)
        refine wpAnyD_one (i := 27) (o := { dst := some 54, op := Op.buildSlice 82 1 #[(0, Operand.tmp 53)], type := 82, pos := "ref.go:67", after := #[{ on := 26, ground := Ground.data }], guard := none }) (by kernel_rfl) rfl (fun K hK => ?_)
        clear hS
        have hS := HS5.out _ _ H4.out
        go_simp
        refine hK _ _ (fun _ _ => hS) ?_
        clear hK K
        try simp only [Act.put, List.setIfInBounds_toArray, List.set_cons_zero, List.set_cons_succ]
        obtain ⟨i0, hi, hz0, hz1, hz2⟩ := info_parts entry_info
        refine wpAnyD_one (i := 28) (o := { dst := some 55, op := Op.call { callee := Callee.builtin Builtin.append, args := #[Operand.tmp 31, Operand.tmp 54], argTypes := #[82, 82] }, type := 82, pos := "ref.go:67", after := #[{ on := 4, ground := Ground.data }, { on := 27, ground := Ground.data }, { on := 25, ground := Ground.chain }], guard := none }) (by kernel_rfl) rfl (fun K hK => ?_)
        refine step_append_w (by rfl) (.tmp 31) (.tmp 54) 82 rfl 87 i0 _ 3 32 Tryz.underlying82 hi hz0 hz1 hz2 rfl (.slice A n c) n (rows Rn.cells l) (by rfl) (by have h9 := H4.out.sl; rwa [← HN.out] at h9) _ (by rfl) 1 (Rn.cells ⟨nx, nm, bp⟩) HXN.out (rn_one _) (by have := HN1.out; unfold maxLen; omega) (by have := HN1.out; omega) ?_
        intro v8 w8 s8 o8 b8
        obtain ⟨B8, d8, rfl, _, _⟩ := Sl.form s8
        have HS8 := hide (show Sl w8 87 3 (.slice B8 (n + 1) d8) (l ++ [(⟨nx, nm, bp⟩ : Rn)]).length (rows Rn.cells (l ++ [(⟨nx, nm, bp⟩ : Rn)])) from by rw [show (l ++ [(⟨nx, nm, bp⟩ : Rn)]).length = n + 1 by rw [List.length_append, ← HN.out]; rfl, rows_append, rows_one]; exact s8)
        obtain ⟨k8, hr8⟩ := H4.out.push HS8.out o8 b8
        have H8 := hide hr8
        have fz := k8.frozen 0
        have e0 : w8.cell? ⟨rb, 0, none⟩ = some (.slice A n c) := (k8.cell 0).trans rfl
        have e1 : w8.cell? ⟨rb, 1, none⟩ = some (.int .i64 (nx : Int)) := (k8.cell 1).trans rfl
        have hS8 : (w8.cell? ⟨rb, 0, none⟩ = some (.slice A n c) ∧ w8.cell? ⟨rb, 1, none⟩ = some (.int .i64 (nx : Int)) ∧ w8.cell? ⟨rb, 3, none⟩ = some (.int .i64 1) ∧ w8.cell? ⟨rb, 4, none⟩ = some (.int .i64 2) ∧ w8.cell? ⟨rb, 5, none⟩ = some (.int .i64 3)) := ⟨e0, e1, (k8.cell 3).trans rfl, (k8.cell 4).trans rfl, (k8.cell 5).trans rfl⟩
        clear s8 o8 b8 k8 hr8 hS hi hz0 hz1 hz2
        refine hK _ _ (fun _ _ => hS8) ?_
        clear hK K
        try simp only [Act.put, List.setIfInBounds_toArray, List.set_cons_zero, List.set_cons_succ]
        have hS := hS8
        clear hS8
        refine wpAnyD_takeW (i := 29) (oi := { dst := some 56, op := Op.nilCheck (Operand.tmp 27), type := 0, pos := "ref.go:67", after := #[{ on := 0, ground := Ground.data }, { on := 0, ground := Ground.phase }, { on := 1, ground := Ground.phase }, { on := 2, ground := Ground.phase }, { on := 3, ground := Ground.phase }, { on := 4, ground := Ground.phase }, { on := 5, ground := Ground.phase }, { on := 6, ground := Ground.phase }, { on := 7, ground := Ground.phase }, { on := 8, ground := Ground.phase }, { on := 9, ground := Ground.phase }, { on := 10, ground := Ground.phase }, { on := 11, ground := Ground.phase }, { on := 12, ground := Ground.phase }, { on := 13, ground := Ground.phase }, { on := 14, ground := Ground.phase }, { on := 15, ground := Ground.phase }, { on := 16, ground := Ground.phase }, { on := 17, ground := Ground.phase }, { on := 18, ground := Ground.phase }, { on := 19, ground := Ground.phase }, { on := 20, ground := Ground.phase }, { on := 21, ground := Ground.phase }, { on := 22, ground := Ground.phase }, { on := 23, ground := Ground.phase }, { on := 24, ground := Ground.phase }, { on := 25, ground := Ground.phase }, { on := 26, ground := Ground.phase }, { on := 27, ground := Ground.phase }, { on := 28, ground := Ground.phase }], guard := none }) (v := ?_) rfl (by kernel_rfl) (by kernel_rfl) (by kernel_rfl) (fun _ _ _ h => h) (Or.inl ⟨by rfl, ?_⟩) ?_
        rotate_left
        · intro w hSw
          clear hSw
          go_simp
          all_goals with_reducible rfl
        simp only [Act.put, List.setIfInBounds_toArray, List.set_cons_zero, List.set_cons_succ]
        refine wpAnyD_takeW (i := 30) (oi := { dst := some 57, op := Op.fieldAddr 84 (Operand.tmp 56) 0, type := 0, pos := "ref.go:67", after := #[{ on := 29, ground := Ground.data }, { on := 0, ground := Ground.phase }, { on := 1, ground := Ground.phase }, { on := 2, ground := Ground.phase }, { on := 3, ground := Ground.phase }, { on := 4, ground := Ground.phase }, { on := 5, ground := Ground.phase }, { on := 6, ground := Ground.phase }, { on := 7, ground := Ground.phase }, { on := 8, ground := Ground.phase }, { on := 9, ground := Ground.phase }, { on := 10, ground := Ground.phase }, { on := 11, ground := Ground.phase }, { on := 12, ground := Ground.phase }, { on := 13, ground := Ground.phase }, { on := 14, ground := Ground.phase }, { on := 15, ground := Ground.phase }, { on := 16, ground := Ground.phase }, { on := 17, ground := Ground.phase }, { on := 18, ground := Ground.phase }, { on := 19, ground := Ground.phase }, { on := 20, ground := Ground.phase }, { on := 21, ground := Ground.phase }, { on := 22, ground := Ground.phase }, { on := 23, ground := Ground.phase }, { on := 24, ground := Ground.phase }, { on := 25, ground := Ground.phase }, { on := 26, ground := Ground.phase }, { on := 27, ground := Ground.phase }, { on := 28, ground := Ground.phase }], guard := none }) (v := ?_) rfl (by kernel_rfl) (by kernel_rfl) (by kernel_rfl) (fun _ _ _ h => h) (Or.inl ⟨by rfl, ?_⟩) ?_
        rotate_left
        · intro w hSw
          clear hSw
          go_simp
          all_goals with_reducible rfl
        simp only [Act.put, List.setIfInBounds_toArray, List.set_cons_zero, List.set_cons_succ]
        refine wpAnyD_one (i := 31) (o := { dst := none, op := Op.store 82 (Operand.tmp 57) (Operand.tmp 55), type := 0, pos := "ref.go:67", after := #[{ on := 30, ground := Ground.data }, { on := 28, ground := Ground.data }, { on := 28, ground := Ground.chain }, { on := 0, ground := Ground.phase }, { on := 1, ground := Ground.phase }, { on := 2, ground := Ground.phase }, { on := 3, ground := Ground.phase }, { on := 4, ground := Ground.phase }, { on := 5, ground := Ground.phase }, { on := 6, ground := Ground.phase }, { on := 7, ground := Ground.phase }, { on := 8, ground := Ground.phase }, { on := 9, ground := Ground.phase }, { on := 10, ground := Ground.phase }, { on := 11, ground := Ground.phase }, { on := 12, ground := Ground.phase }, { on := 13, ground := Ground.phase }, { on := 14, ground := Ground.phase }, { on := 15, ground := Ground.phase }, { on := 16, ground := Ground.phase }, { on := 17, ground := Ground.phase }, { on := 18, ground := Ground.phase }, { on := 19, ground := Ground.phase }, { on := 20, ground := Ground.phase }, { on := 21, ground := Ground.phase }, { on := 22, ground := Ground.phase }, { on := 23, ground := Ground.phase }, { on := 24, ground := Ground.phase }, { on := 25, ground := Ground.phase }, { on := 26, ground := Ground.phase }, { on := 27, ground := Ground.phase }, { on := 28, ground := Ground.phase }], guard := none }) (by kernel_rfl) rfl (fun K hK => ?_)
        go_simp
        refine hK _ _ (fun h => by cases h) ?_
        clear hK K
        try simp only [Act.put, List.setIfInBounds_toArray, List.set_cons_zero, List.set_cons_succ]
        refine wpAnyD_done (by kernel_rfl) ?_ _
        clear hS e0 e1 fz
        obtain ⟨w9, hw9⟩ : ∃ y : World, y = w8.setCell ⟨rb, 0, none⟩ (.slice B8 (n + 1) d8) := ⟨_, rfl⟩
        have H9 := hide (show RAt W w9 rb (.slice B8 (n + 1) d8) ⟨l ++ [⟨nx, nm, bp⟩], nx, cu⟩ (yHeap z ⟨[], 0, 1, 2, 3⟩ ++ X) from by
          rw [hw9]
          exact (H8.out.own.perm (by
            show List.Perm (rsHead rb (.slice B8 (n + 1) d8) ⟨l ++ [⟨nx, nm, bp⟩], nx, cu⟩ ++ (yHeap z ⟨[], 0, 1, 2, 3⟩ ++ X)) _
            rfl) |> fun h9 => ⟨h9, H8.out.ok⟩))
        rw [← hw9]
        have k1 : w9.cell? ⟨rb, 1, none⟩ = some (.int .i64 (nx : Int)) := H9.out.cells.2.1
        have f1 := H9.out.blk.frozen 1
        have hnx : (nx : Int) ≤ 1000000 := by have := HX.out; omega
        have H10 := hide (H9.out.setNx (nx + 1))
        clear hw9
        go_wp2_with fail
        go_ret2
        refine ⟨by rw [HE.out]; rfl, fun h9 => absurd HE.out h9, fun _ => ⟨.slice B8 (n + 1) d8, z, ?_, HZ.out⟩⟩
        rw [← HBP.out]
        have h9 := H10.out
        rw [show ((nx + 1 : Nat) : Int) = (nx : Int) + 1 by omega] at h9
        exact h9
    · have HT := hide (hasR_true.2 ⟨x, hx, hxn⟩)
      have HE := hide (show creR s nm = 17 from by unfold creR; rw [HE0.out, if_neg (by decide), HT.out, if_pos rfl])
      clear hx hxn
      go_wp2_with fail
      go_ret2
      exact CreR.bad HE.out (by decide) H1.out
  · have z1 : (E != 0) = true := by simpa using h0
    have z2 : decide (E = 0) = false := by simpa using h0
    have HE := hide (show creR s nm = E from by unfold creR; rw [← hE, if_pos h0])
    have HE0 := hide h0
    clear h hl hx hs hE h0
    go_enter Tryz.func50, Tryz.ntmps50
    go_wp2_with fail
    refine Calls.mono HC.out ?_
    rintro e w1 ⟨rfl, b1⟩
    have H1 := hide (H.out.below b1)
    clear b1
    go_wp2_with fail
    go_ret2
    exact CreR.bad HE.out HE0.out H1.out
end
end Go.Proofs.YtnbhejbpofjamaaGreatDoor
namespace Go.Proofs.YtnbhejbpofjamaaGreatDoor
open Go.RowKit

section
variable {W w w' : World} {rb : Nat} {v : Value} {s : Rst} {X Y : Heap}
def RenR (W : World) (rb : Nat) (v : Value) (s : Rst) (id : Int) (n : ByteArray) (X : Heap) (e : Ending) (w' : World) : Prop :=
  (e = .returned (.int .i64 8) ∧ (∀ x ∈ s.l, (x.id : Int) ≠ id) ∧ RAt W w' rb v s X) ∨ ∃ k x, s.l[k]? = some x ∧ (x.id : Int) = id ∧
    ((chkE n ≠ 0 ∧ e = .returned (.int .i64 (chkE n)) ∧ RAt W w' rb v s X) ∨
     (chkE n = 0 ∧ (∃ y ∈ s.l, y.name = n ∧ (y.id : Int) ≠ id) ∧ e = .returned (.int .i64 17) ∧ RAt W w' rb v s X) ∨
     (chkE n = 0 ∧ ((∀ y ∈ s.l, y.name ≠ n) ∨ ∃ y ∈ s.l, y.name = n ∧ (y.id : Int) = id) ∧ e = .returned (.int .i64 0) ∧ RAt W w' rb v { s with l := s.l.set k { x with name := n } } X))
set_option maxRecDepth 100000 in
set_option maxHeartbeats 16000000 in
theorem rrename_any (h : RAt W w rb v s X) (id : Int) (hl : s.l.length ≤ 1000) (nm : ByteArray) (hs : nm.size ≤ 1000000) : Calls Tryz.prog 52 #[.pointer (some ⟨rb, 0, none⟩), .int .i64 id, .string nm] w (RenR W rb v s id nm X) := by
  have HF := hide (rfindid_any h id hl)
  have HC := hide (rcheck26_any nm w hs)
  have H := hide h
  have HL := hide hl
  clear h hl
  go_enter Tryz.func52, Tryz.ntmps52
  go_wp2_with fail
  refine Calls.mono HF.out ?_
  rintro e w1 ⟨i, rfl, hi, rfl⟩
  rcases hi with ⟨rfl, hno⟩ | ⟨k, x, rfl, hx, hxi⟩
  · have HNO := hide hno
    clear hno
    go_wp2_with fail
    go_ret
    exact .inl ⟨rfl, HNO.out, H.out⟩
  · have HX := hide hx
    have HXI := hide hxi
    have y1 : decide ((k : Int) < 0) = false := by simp
    have hk := (List.getElem?_eq_some_iff.1 hx).1
    have HK := hide hk
    have hk1 : (k : Int) ≤ 1000 := by have := HL.out; omega
    obtain ⟨E, hE⟩ : ∃ E, E = chkE nm := ⟨_, rfl⟩
    rw [← hE] at HC
    have HE := hide hE
    clear hx hxi hE hk
    by_cases h0 : E = 0
    · have HE0 := hide (show chkE nm = 0 by rw [← HE.out]; exact h0)
      subst h0
      go_wp2_with fail
      refine Calls.mono HC.out ?_
      rintro e w2 ⟨rfl, b2⟩
      have H2 := hide (H.out.below b2)
      clear b2
      go_wp2_with fail
      refine Calls.mono (rfindn_any H2.out nm HL.out) ?_
      rintro e w3 ⟨u, rfl, hu, rfl⟩
      obtain ⟨c0, _, _⟩ := H2.out.cells
      obtain ⟨A, c, hv, hcap, hcm⟩ := H2.out.sl.form
      have hr0 := H2.out.sl.rd
      obtain ⟨n, hn⟩ : ∃ n, n = s.l.length := ⟨_, rfl⟩
      rw [← hn] at hv hr0
      have HN := hide hn
      have hkn : k < n := by rw [hn]; exact HK.out
      rw [hv] at hr0
      obtain ⟨g, off, hA, _, r1, _⟩ := rn_row hr0 HX.out hkn
      subst hA
      subst hv
      obtain ⟨hS, hfz⟩ := RAt.setName H2.out HN.out HX.out nm
      have HS := hide hS
      rw [← Nat.add_assoc] at HS hfz
      have kn1 : (k : Int) < (n : Int) := by omega
      clear hn hS hkn hr0 hcap hcm
      rcases hu with ⟨rfl, hno⟩ | ⟨y, hy, hyn, rfl⟩
      · have HNO := hide hno
        clear hno
        go_wp2_with fail
        go_ret
        exact .inr ⟨k, x, HX.out, HXI.out, .inr (.inr ⟨HE0.out, .inl HNO.out, rfl, HS.out⟩)⟩
      · have HY := hide hy
        have HYN := hide hyn
        clear hy hyn
        by_cases hid : (y.id : Int) = id
        · have z1 : ((y.id : Int) != id) = false := by simpa using hid
          have z2 : decide ((y.id : Int) = id) = true := by simpa using hid
          have HID := hide hid
          clear hid
          go_wp2_with fail
          go_ret
          exact .inr ⟨k, x, HX.out, HXI.out, .inr (.inr ⟨HE0.out, .inr ⟨y, HY.out, HYN.out, HID.out⟩, rfl, HS.out⟩)⟩
        · have z1 : ((y.id : Int) != id) = true := by simpa using hid
          have z2 : decide ((y.id : Int) = id) = false := by simpa using hid
          have HID := hide hid
          clear hid
          go_wp2_with fail
          go_ret
          exact .inr ⟨k, x, HX.out, HXI.out, .inr (.inl ⟨HE0.out, ⟨y, HY.out, HYN.out, HID.out⟩, rfl, H2.out⟩)⟩
    · have z1 : (E != 0) = true := by simpa using h0
      have z2 : decide (E = 0) = false := by simpa using h0
      have HE0 := hide h0
      clear h0
      go_wp2_with fail
      refine Calls.mono HC.out ?_
      rintro e w2 ⟨rfl, b2⟩
      have H2 := hide (H.out.below b2)
      clear b2
      go_wp2_with fail
      go_ret
      exact .inr ⟨k, x, HX.out, HXI.out, .inl ⟨by rw [← HE.out]; exact HE0.out, by rw [← HE.out]; rfl, H2.out⟩⟩
def scr : ByteArray := ⟨#[42, 115, 99, 114, 97, 116, 99, 104, 42]⟩
theorem cre_scr : creR ⟨[], 0, 0⟩ scr = 0 := by
  unfold creR
  rw [show chkE scr = 0 by decide +kernel, if_neg (by decide), show hasR (⟨[], 0, 0⟩ : Rst).l scr = false from rfl, if_neg (by decide), if_neg (by decide)]
set_option maxRecDepth 100000 in
set_option maxHeartbeats 4000000 in
theorem rsnew_any (h : Own W w X) : Calls Tryz.prog 22 #[.int .i64 1, .int .i64 2, .int .i64 3] w fun e w' => ∃ rb v z, e = .returned (.pointer (some ⟨rb, 0, none⟩)) ∧ RAt W w' rb v ⟨[⟨0, scr, z.bp⟩], 1, 0⟩ (yHeap z ⟨[], 0, 1, 2, 3⟩ ++ X) ∧ YOk z ⟨[], 0, 1, 2, 3⟩ := by
  have h1 := h.newCells 84 #[.slice none 0 0, .int .i64 0, .int .i64 0, .int .i64 1, .int .i64 2, .int .i64 3]
  have h2 : RAt W (w.alloc (.cells #[.slice none 0 0, .int .i64 0, .int .i64 0, .int .i64 1, .int .i64 2, .int .i64 3] 84)) w.heap.size (.slice none 0 0) ⟨[], 0, 0⟩ X := ⟨h1, RowOk.nil⟩
  have HC := hide (rcreate_any h2 (by decide) (by decide) scr (by decide))
  clear h h1 h2
  go_enter Tryz.func22, Tryz.ntmps22
  go_wp2_with fail
  refine Calls.mono HC.out ?_
  rintro e w1 ⟨rfl, _, hc⟩
  obtain ⟨v', z, h3, h4⟩ := hc cre_scr
  have H3 := hide h3
  have H4 := hide h4
  clear hc h3 h4
  go_wp2_with fail
  go_ret
  exact ⟨_, v', z, rfl, H3.out, H4.out⟩
end
/-! ### The set with its buffers -/
def ysHeap (E : List (Yb × Bz)) : Heap := E.flatMap fun y => yHeap y.1 y.2
theorem ysHeap_cons (y : Yb × Bz) (E : List (Yb × Bz)) : ysHeap (y :: E) = yHeap y.1 y.2 ++ ysHeap E := by simp [ysHeap]
theorem ysHeap_app (D E : List (Yb × Bz)) : ysHeap (D ++ E) = ysHeap D ++ ysHeap E := by simp [ysHeap]
theorem ysHeap_bp {E : List (Yb × Bz)} {y : Yb × Bz} (h : y ∈ E) : y.1.bp ∈ Heap.blocks (ysHeap E) := by
  obtain ⟨A, B, rfl⟩ := List.append_of_mem h
  rw [ysHeap_app, ysHeap_cons, Heap.blocks_append, Heap.blocks_append]
  exact List.mem_append_right _ (List.mem_append_left _ (yHeap_bp _ _))
/-- The reference's set at rb, its buffers' states ty, beside X. -/
structure RZ (W w : World) (rb : Nat) (s : Rst) (ty : Nat → Bz) (X : Heap) : Prop where
  at_ : ∃ v E, RAt W w rb v s (ysHeap E ++ X) ∧ (∀ y ∈ E, YOk y.1 y.2) ∧ ∀ e ∈ s.l, ∃ z, (z, ty e.b) ∈ E ∧ z.bp = e.b
section
variable {W w w' : World} {rb : Nat} {v : Value} {s s' : Rst} {ty : Nat → Bz} {X Y : Heap}
theorem RZ.below (h : RZ W w rb s ty X) (hb : Below w.heap.size w w') : RZ W w' rb s ty X := by
  obtain ⟨v, E, h1, h2⟩ := h.at_
  exact ⟨v, E, h1.below hb, h2⟩
/-- The set turns, its buffers stay. -/
theorem RZ.mk' {v' : Value} {E : List (Yb × Bz)} (h : RAt W w rb v' s' (ysHeap E ++ X)) (hE : ∀ y ∈ E, YOk y.1 y.2) (hZ : ∀ e ∈ s'.l, ∃ z, (z, ty e.b) ∈ E ∧ z.bp = e.b) : RZ W w rb s' ty X := ⟨v', E, h, hE, hZ⟩
/-- The blocks that lie beside may turn. -/
theorem RZ.reX (h : RZ W w rb s ty X) (ho : ∀ L, Own W w (L ++ X) → Own W w' (L ++ Y)) : RZ W w' rb s ty Y := by
  obtain ⟨v, E, h1, h2⟩ := h.at_
  refine ⟨v, E, h1.reX ?_, h2⟩
  have h3 := h1.own
  rw [← List.append_assoc] at h3 ⊢
  exact ho _ h3
theorem rz_new (h : Own W w X) : Calls Tryz.prog 22 #[.int .i64 1, .int .i64 2, .int .i64 3] w fun e w' => ∃ rb bp, e = .returned (.pointer (some ⟨rb, 0, none⟩)) ∧ RZ W w' rb ⟨[⟨0, scr, bp⟩], 1, 0⟩ (fun _ => ⟨[], 0, 1, 2, 3⟩) X := by
  refine (rsnew_any h).mono ?_
  rintro e w' ⟨rb, v, z, rfl, h1, h2⟩
  refine ⟨rb, z.bp, rfl, v, [(z, ⟨[], 0, 1, 2, 3⟩)], ?_, ?_, ?_⟩
  · rw [ysHeap_cons, show ysHeap [] = [] from rfl, List.append_nil]
    exact h1
  · intro y hy
    obtain rfl := List.mem_singleton.1 hy
    exact h2
  · intro e he
    obtain rfl := List.mem_singleton.1 he
    exact ⟨z, List.mem_cons_self .., rfl⟩
theorem ys_take {E : List (Yb × Bz)} {y : Yb × Bz} (h : y ∈ E) : ∃ A B, E = A ++ y :: B ∧ ∀ y', (ysHeap (A ++ y' :: B)).Perm (yHeap y'.1 y'.2 ++ ysHeap (A ++ B)) := by
  obtain ⟨A, B, rfl⟩ := List.append_of_mem h
  refine ⟨A, B, rfl, fun y' => ?_⟩
  rw [ysHeap_app, ysHeap_cons, ysHeap_app]
  exact List.perm_append_comm_assoc _ _ _
/-- A string goes into a buffer. -/
theorem RZ.insert (h : RZ W w rb s ty X) (_bn : (s.l.map Rn.b).Nodup) {x : Rn} (hx : x ∈ s.l) (t : ByteArray) (ht : t.size ≤ 300) (htk : (ty x.b).tick ≤ 1000000) :
    Calls Tryz.prog 56 #[.pointer (some ⟨x.b, 0, none⟩), .string t, .bool false] w fun e w' => e = .returned (.int .i64 (fitE (ty x.b).L t)) ∧ RZ W w' rb s (upd ty x.b (insB (ty x.b) t)) X := by
  obtain ⟨v, E, h1, hE, hZ⟩ := h.at_
  obtain ⟨z, hz, ez⟩ := hZ x hx
  obtain ⟨A, B, rfl, hp⟩ := ys_take hz
  have hk := hE _ hz
  have h2 : Own W w (yHeap z (ty x.b) ++ (rsHead rb v s ++ (ysHeap (A ++ B) ++ X))) := h1.own.perm (by
    have h3 := hp (z, ty x.b)
    refine (List.Perm.append_left _ (h3.append_right X)).trans ?_
    classical
    rw [List.perm_iff_count]
    intro q
    simp only [List.count_append]
    omega)
  have h4 := yinsert_any hk h2 t ht htk
  rw [ez] at h4
  refine h4.mono ?_
  rintro e w' ⟨rfl, z', hz', h5, h6⟩
  refine ⟨rfl, v, A ++ (z', insB (ty x.b) t) :: B, ⟨h5.perm ?_, h1.ok⟩, ?_, ?_⟩
  · have h3 := hp (z', insB (ty x.b) t)
    refine List.Perm.trans ?_ (List.Perm.append_left _ (h3.append_right X)).symm
    classical
    rw [List.perm_iff_count]
    intro q
    simp only [List.count_append]
    omega
  · intro y hy
    rcases List.mem_append.1 hy with hy | hy
    · exact hE y (List.mem_append_left _ hy)
    · rcases List.mem_cons.1 hy with rfl | hy
      · exact h6
      · exact hE y (List.mem_append_right _ (List.mem_cons_of_mem _ hy))
  · intro e he
    by_cases hb : e.b = x.b
    · refine ⟨z', ?_, by rw [hz', ez, hb]⟩
      rw [hb, upd_hit]
      exact List.mem_append_right _ (List.mem_cons_self ..)
    · rw [upd_miss _ _ hb]
      obtain ⟨q, hq, eq⟩ := hZ e he
      refine ⟨q, ?_, eq⟩
      rcases List.mem_append.1 hq with hq | hq
      · exact List.mem_append_left _ hq
      · rcases List.mem_cons.1 hq with hq | hq
        · exfalso
          have : q = z := congrArg Prod.fst hq
          exact hb (by rw [← eq, this, ez])
        · exact List.mem_append_right _ (List.mem_cons_of_mem _ hq)
end
end Go.Proofs.YtnbhejbpofjamaaGreatDoor
