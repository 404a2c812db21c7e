/- BuffersFind: the walk. No condition but those written. -/
import Derived.Test.YtnbhejbpofjamaaGreatDoorBmq
import Derived.Test.YtnbhejbpofjamaaGreatDoorBre
namespace Go.Proofs.YtnbhejbpofjamaaGreatDoor
open Go.RowKit

theorem Rd.act {w : World} {A : Option Addr} {n c i : Nat} {l : List Ab} {a : Ab} (h : Rd w (.slice A n c) 3 n (rows Ab.cells l)) (hn : n = l.length) (ha : l[i]? = some a) : ∃ g off, A = some ⟨g, off, none⟩ ∧ w.cell? ⟨g, off + i * 3, none⟩ = some (.int .i64 a.k) ∧ w.cell? ⟨g, off + i * 3 + 1, none⟩ = some (.int .i64 a.id) ∧ w.cell? ⟨g, off + i * 3 + 2, none⟩ = some (.string a.n) := by
  have hlt := (List.getElem?_eq_some_iff.1 ha).1
  obtain ⟨g, off, rfl⟩ := Rd.some_ h (by omega)
  have h1 := Rd.atA h ha
  exact ⟨g, off, rfl, h1.p0, h1.p1, h1.p2⟩
theorem order_has {s : Bst} (ok : s.Ok) {k : Nat} (h : k ∈ s.order) : ∃ x, fndB s.all (k : Int) = some x ∧ x ∈ s.all ∧ x.id = k := fndB_of ((ok.mem k).1 h)
def hasK (s : Bst) (k : Nat) (n : ByteArray) : Bool := (s.order.take k).any fun i => match fndB s.all (i : Int) with
  | some x => decide (x.name = n)
  | none => false
theorem hasK_zero (s : Bst) (n : ByteArray) : hasK s 0 n = false := rfl
theorem hasK_succ {s : Bst} {k i : Nat} {x : Nb} {n : ByteArray} (h : s.order[k]? = some i) (hx : fndB s.all (i : Int) = some x) : hasK s (k + 1) n = (hasK s k n || decide (x.name = n)) := by
  unfold hasK
  rw [List.take_add_one, h, List.any_append]
  simp [hx]
theorem hasK_all {s : Bst} (ok : s.Ok) (n : ByteArray) : hasK s s.order.length n = hasN s.all n := by
  unfold hasK
  rw [List.take_of_length_le (Nat.le_refl _)]
  cases hn : hasN s.all n with
  | true =>
    obtain ⟨x, hx, e⟩ := hasN_true.1 hn
    rw [List.any_eq_true]
    have hm : x.id ∈ s.order := (ok.mem _).2 (List.mem_map.2 ⟨x, hx, rfl⟩)
    obtain ⟨y, hy, hy2, hy3⟩ := order_has ok hm
    refine ⟨x.id, hm, ?_⟩
    rw [hy]
    have : y = x := by
      have h1 := ok.nod
      obtain ⟨A, B, e2⟩ := List.append_of_mem hx
      rw [e2, List.map_append, List.map_cons, List.nodup_append] at h1
      rw [e2] at hy2
      rcases List.mem_append.1 hy2 with h4 | h4
      · exact absurd hy3 (h1.2.2 _ (List.mem_map.2 ⟨y, h4, rfl⟩) _ (List.mem_cons_self ..))
      · rcases List.mem_cons.1 h4 with h4 | h4
        · exact h4
        · exact absurd (List.mem_map.2 ⟨y, h4, hy3⟩) (List.nodup_cons.1 h1.2.1).1
    rw [this]
    simpa using e
  | false =>
    rw [List.any_eq_false]
    intro i hi
    obtain ⟨y, hy, hy2, hy3⟩ := order_has ok hi
    rw [hy]
    simpa using hasN_false.1 hn y hy2
theorem chk_zero {n : ByteArray} (h : chkE n = 0) : validS n = true ∧ n.size ≠ 0 := by
  unfold chkE at h
  split at h
  · cases h
  · split at h
    · cases h
    · rename_i h8 h9
      exact ⟨by simpa using h8, h9⟩
theorem empty_no {n : ByteArray} (h : n.size ≠ 0) : n.toList.isEmpty = false := by
  cases he : n.toList.isEmpty with
  | false => rfl
  | true =>
    rw [List.isEmpty_iff] at he
    have h9 : n = ⟨#[]⟩ := (Lib.bytes_beq_iff _ _).1 (by rw [he]; kernel_rfl)
    exact absurd (by rw [h9]; rfl) h
set_option maxRecDepth 100000 in
set_option maxHeartbeats 8000000 in
theorem find_walk (l : List Ab) (A : Option Addr) (c : Nat) (name : ByteArray) (W : World) (hrd : Rd W (.slice A l.length c) 3 l.length (rows Ab.cells l)) (hm : l.length ≤ maxLen) (hR : Rules W) (hP : Pow W) :
    Calls Tryz.prog 3 #[.slice A l.length c, .string name] W fun e w' => e = .returned (.bool true) ∧ Below W.heap.size W w' := by
  have HLV := hide (lives_any W hR.tabs hP)
  have HLI := hide (fun w1 (hb : Below W.heap.size W w1) => light_any l (.slice A l.length c) w1 (hrd.belowN hb) hm)
  have HRD := hide hrd
  have HR := hide hR
  have HP := hide hP
  obtain ⟨nn, hnn⟩ : ∃ nn, nn = l.length := ⟨_, rfl⟩
  rw [← hnn] at HRD HLI ⊢
  have HNN := hide hnn
  have hl2 : (nn : Int) ≤ 9223372036854775807 := by unfold maxLen at hm; omega
  clear hrd hm hR hP hnn
  cases hli : lightB l with
  | false =>
    rw [hli] at HLI
    clear hli
    go_enter Tryz.func3, Tryz.ntmps3
    go_wp2_with fail
    refine Calls.mono HLV.out ?_
    rintro e w0 ⟨rfl, b0⟩
    have HB0 := hide b0
    clear b0
    go_wp2_with fail
    refine Calls.mono (HLI.out _ HB0.out) ?_
    rintro e w1 ⟨rfl, rfl⟩
    go_wp2_with fail
    go_ret
    exact ⟨rfl, HB0.out⟩
  | true =>
    have HLL := hide (lightB_iff.1 hli)
    rw [hli] at HLI
    clear hli
    by_cases hbig : 300 < name.size
    · have z1 : decide ((300 : Int) < (name.size : Int)) = true := by simp; omega
      have z2 : decide (300 < name.size) = true := by simpa using hbig
      clear hbig
      go_enter Tryz.func3, Tryz.ntmps3
      go_wp2_with fail
      refine Calls.mono HLV.out ?_
      rintro e w0 ⟨rfl, b0⟩
      have HB0 := hide b0
      clear b0
      go_wp2_with fail
      refine Calls.mono (HLI.out _ HB0.out) ?_
      rintro e w1 ⟨rfl, rfl⟩
      go_wp2_with fail
      go_ret
      exact ⟨rfl, HB0.out⟩
    · have z1 : decide ((300 : Int) < (name.size : Int)) = false := by simp; omega
      have z2 : decide (300 < name.size) = false := by simpa using hbig
      have HNS := hide hbig
      have hn60 : (nn : Int) ≤ 60 := by have := HLL.out.2; have := HNN.out; omega
      clear hbig hl2
      go_enter Tryz.func3, Tryz.ntmps3
      go_wp2_with fail
      refine Calls.mono HLV.out ?_
      rintro e w0 ⟨rfl, b0⟩
      have HB0 := hide b0
      clear b0 HLV
      go_wp2_with fail
      refine Calls.mono (HLI.out _ HB0.out) ?_
      rintro e w1 ⟨rfl, rfl⟩
      clear HLI
      go_wp2_with fail
      refine Calls.mono (lz_new (Own.refl w0) (HR.out.tabs.below HB0.out)) ?_
      rintro e w1 ⟨sb, g0, b0, rfl, h1⟩
      have H1 := hide h1
      have HR0 := hide (HR.out.below HB0.out)
      have HP0 := hide (HP.out.below HB0.out)
      clear h1
      go_wp2_with fail
      go_loopw [6] (fun iv wr => ∃ (k : Nat) (s : Bst) (tx : Nat → Bz), k ≤ nn ∧ iv = .int .i64 (k : Int) ∧ LZ w0 wr sb s tx k []) (fun iv _ => nn - (intOf iv).toNat)
      case atStart => exact ⟨0, _, _, Nat.zero_le _, rfl, H1.out⟩
      case round =>
        obtain ⟨k, s, tx, hk, rfl, hz⟩ := hrel
        have HZ := hide hz
        have HK := hide hk
        clear hz
        by_cases hlt : k < nn
        · have y1 : decide (k < nn) = true := by simpa using hlt
          have y2 : decide ((k : Int) < (nn : Int)) = true := by simp; omega
          have y3 : (k : Int) < (nn : Int) := by omega
          obtain ⟨a, ha⟩ : ∃ a, l[k]? = some a := ⟨_, List.getElem?_eq_getElem (by rw [← HNN.out]; exact hlt)⟩
          obtain ⟨g, off, rfl, p0, p1, p2⟩ := (HRD.out.belowN (HB0.out.trans (HZ.out.bel.mono HB0.out.size))).act HNN.out ha
          have HDO := hide (do_any HZ.out HR0.out (by have := HLL.out.2; have := HNN.out; omega) a (HLL.out.1 a (List.mem_of_getElem? ha)))
          have HLT := hide hlt
          clear hlt hk ha
          go_wp2_with fail
          refine Calls.mono HDO.out ?_
          rintro e w2 ⟨rfl, s2, tx2, _, h2⟩
          have H2 := hide h2
          clear h2 p0 p1 p2
          go_wp2_with fail
          go_roundw
          case rel => exact ⟨k + 1, s2, tx2, HLT.out, by go_num, H2.out⟩
          case measure => have := HLT.out; simp [intOf]; omega
        · have y1 : decide (k < nn) = false := by simpa using hlt
          have y2 : decide ((k : Int) < (nn : Int)) = false := by simp; omega
          obtain rfl : k = nn := by omega
          have HLS := hide (HZ.out.list (by have := hn60; omega))
          obtain ⟨m, hmm⟩ : ∃ m, m = s.order.length := ⟨_, rfl⟩
          rw [← hmm] at HLS
          have HMM := hide hmm
          have hm3 : (m : Int) ≤ 1000 := by have := HZ.out.len; have := hn60; omega
          clear hk hlt hmm H1
          go_wp2_with fail
          refine Calls.mono HLS.out ?_
          rintro e w3 ⟨A3, c3, rfl, r3, b3⟩
          have HR3 := hide r3
          have H3 := hide (HZ.out.below b3)
          clear r3 b3 HLS
          go_wp2_with fail
          go_loopw [8, 9] (fun f iv wr => ∃ j : Nat, j ≤ m ∧ f = .bool (hasK s j name) ∧ iv = .int .i64 (j : Int) ∧ Below w3.heap.size w3 wr) (fun _ iv _ => m - (intOf iv).toNat)
          case atStart => exact ⟨0, Nat.zero_le _, rfl, rfl, Below.refl _ _⟩
          case round =>
            obtain ⟨j, hj, rfl, rfl, hb⟩ := hrel
            have HB := hide hb
            have HZ2 := hide (H3.out.below hb)
            by_cases hlt : j < m
            · have y1' : decide (j < m) = true := by simpa using hlt
              have y2' : decide ((j : Int) < (m : Int)) = true := by simp; omega
              have y3' : (j : Int) < (m : Int) := by omega
              obtain ⟨i, hi⟩ : ∃ i, s.order[j]? = some i := ⟨_, List.getElem?_eq_getElem (by rw [← HMM.out]; exact hlt)⟩
              obtain ⟨x, hx, hxm, hxi⟩ := order_has HZ.out.ok (List.mem_of_getElem? hi)
              obtain ⟨g3, o3, rfl, hc3⟩ := rd_cells HR3.out (by omega)
              have d0 := hc3 wr hb j _ (ints_at hi)
              have HC3 := hide hc3
              have HHK := hide (hasK_succ (n := name) hi hx)
              have HI := hide hi
              have HXM := hide hxm
              have HXI := hide hxi
              have HNM := HZ2.out.name (i : Int)
              rw [show nameR s (i : Int) = .tuple #[.string x.name, .bool true] by unfold nameR; rw [hx]] at HNM
              have HNM := hide HNM
              have HGT := hide (fun (w' : World) (hb' : Below wr.heap.size wr w') => (show Calls Tryz.prog 16 #[.pointer (some ⟨sb, 0, none⟩), .int .i64 (i : Int)] w' fun e w'' => e = .returned (.pointer (some ⟨x.b, 0, none⟩)) ∧ w' = w'' from by
                have h9 := (HZ2.out.below hb').get (i : Int)
                rwa [show getR s (i : Int) = .pointer (some ⟨x.b, 0, none⟩) by unfold getR; rw [hx]] at h9))
              have HFD := HZ2.out.find x.name
              rw [show findR s x.name = .tuple #[.int .i64 (i : Int), .bool true] by
                unfold findR
                rw [find_uniq HZ.out.nn hxm rfl]
                show Value.tuple #[.int .i64 (x.id : Int), .bool true] = _
                rw [hxi]] at HFD
              have HFD := hide HFD
              have hchk := HZ.out.nv x hxm
              have HVL := hide (chk_zero hchk)
              have hne := empty_no HVL.out.2
              have hsz := HZ.out.nz x hxm
              have HSZ := hide hsz
              have HLT := hide hlt
              clear hj hb hlt hi hx hxm hxi hc3 hchk hsz
              obtain ⟨xn, hxn⟩ : ∃ xn, xn = x.name := ⟨_, rfl⟩
              rw [← hxn] at HNM HFD HVL hne HSZ HHK
              clear hxn
              obtain ⟨fb, hfb⟩ : ∃ fb, fb = hasK s j name := ⟨_, rfl⟩
              rw [← hfb] at HHK ⊢
              clear hfb
              cases fb with
              | true =>
                have HHK2 := hide (show hasK s (j + 1) name = true by rw [HHK.out]; rfl)
                go_wp2_with fail
                refine Calls.mono HNM.out ?_
                rintro e w4 ⟨rfl, rfl⟩
                go_wp2_with fail
                refine Calls.mono HFD.out ?_
                rintro e w4 ⟨rfl, b4⟩
                have HB4 := hide b4
                have d4 := HC3.out w4 (HB.out.trans (b4.mono HB.out.size)) j _ (ints_at HI.out)
                clear b4
                go_wp2_with fail
                refine Calls.mono (refvalid_any xn w4 (by have := HSZ.out; omega)) ?_
                rintro e w5 ⟨rfl, b5⟩
                rw [HVL.out.1]
                have HB5 := hide (HB4.out.trans (b5.mono HB4.out.size))
                have d5 := HC3.out w5 (HB.out.trans (HB5.out.mono HB.out.size)) j _ (ints_at HI.out)
                clear b5
                go_wp2_with fail
                refine Calls.mono (HGT.out w5 HB5.out) ?_
                rintro e w6 ⟨rfl, rfl⟩
                go_wp2_with fail
                go_roundw
                case rel => exact ⟨j + 1, HLT.out, by rw [HHK2.out], by go_num, HB.out.trans (HB5.out.mono HB.out.size)⟩
                case measure => have := HLT.out; simp [intOf]; omega
              | false =>
                by_cases hq : xn = name
                · have q1 : (xn.toList == name.toList) = true := (Lib.bytes_beq_iff _ _).2 hq
                  have HHK2 := hide (show hasK s (j + 1) name = true by rw [HHK.out, decide_eq_true hq]; rfl)
                  clear hq
                  go_wp2_with fail
                  refine Calls.mono HNM.out ?_
                  rintro e w4 ⟨rfl, rfl⟩
                  go_wp2_with fail
                  refine Calls.mono HFD.out ?_
                  rintro e w4 ⟨rfl, b4⟩
                  have HB4 := hide b4
                  have d4 := HC3.out w4 (HB.out.trans (b4.mono HB.out.size)) j _ (ints_at HI.out)
                  clear b4
                  go_wp2_with fail
                  refine Calls.mono (refvalid_any xn w4 (by have := HSZ.out; omega)) ?_
                  rintro e w5 ⟨rfl, b5⟩
                  rw [HVL.out.1]
                  have HB5 := hide (HB4.out.trans (b5.mono HB4.out.size))
                  have d5 := HC3.out w5 (HB.out.trans (HB5.out.mono HB.out.size)) j _ (ints_at HI.out)
                  clear b5
                  go_wp2_with fail
                  refine Calls.mono (HGT.out w5 HB5.out) ?_
                  rintro e w6 ⟨rfl, rfl⟩
                  go_wp2_with fail
                  go_roundw
                  case rel => exact ⟨j + 1, HLT.out, by rw [HHK2.out], by go_num, HB.out.trans (HB5.out.mono HB.out.size)⟩
                  case measure => have := HLT.out; simp [intOf]; omega
                · have q1 : (xn.toList == name.toList) = false := (Lib.bytes_beq_false_iff _ _).2 hq
                  have HHK2 := hide (show hasK s (j + 1) name = false by rw [HHK.out, decide_eq_false hq]; rfl)
                  clear hq
                  go_wp2_with fail
                  refine Calls.mono HNM.out ?_
                  rintro e w4 ⟨rfl, rfl⟩
                  go_wp2_with fail
                  refine Calls.mono HFD.out ?_
                  rintro e w4 ⟨rfl, b4⟩
                  have HB4 := hide b4
                  have d4 := HC3.out w4 (HB.out.trans (b4.mono HB.out.size)) j _ (ints_at HI.out)
                  clear b4
                  go_wp2_with fail
                  refine Calls.mono (refvalid_any xn w4 (by have := HSZ.out; omega)) ?_
                  rintro e w5 ⟨rfl, b5⟩
                  rw [HVL.out.1]
                  have HB5 := hide (HB4.out.trans (b5.mono HB4.out.size))
                  have d5 := HC3.out w5 (HB.out.trans (HB5.out.mono HB.out.size)) j _ (ints_at HI.out)
                  clear b5
                  go_wp2_with fail
                  refine Calls.mono (HGT.out w5 HB5.out) ?_
                  rintro e w6 ⟨rfl, rfl⟩
                  go_wp2_with fail
                  go_roundw
                  case rel => exact ⟨j + 1, HLT.out, by rw [HHK2.out], by go_num, HB.out.trans (HB5.out.mono HB.out.size)⟩
                  case measure => have := HLT.out; simp [intOf]; omega
            · have y1' : decide (j < m) = false := by simpa using hlt
              have y2' : decide ((j : Int) < (m : Int)) = false := by simp; omega
              obtain rfl : j = m := by omega
              have HAL := hide (show hasK s j name = hasN s.all name by rw [HMM.out]; exact hasK_all HZ.out.ok name)
              rw [HAL.out]
              have HOK := hide HZ.out.ok
              have HFD := HZ2.out.find name
              have HUQ := hide (fun (w' : World) (hb' : Below wr.heap.size wr w') => (HZ2.out.below hb').unique (by have := hn60; omega) HR0.out.tabs HP0.out name (by have := HNS.out; omega))
              have HFU := hide (fun (w' : World) (hb' : Below wr.heap.size wr w') (u : ByteArray) (hu : hasN s.all u = false) => (show Calls Tryz.prog 14 #[.pointer (some ⟨sb, 0, none⟩), .string u] w' fun e w'' => e = .returned (.tuple #[.int .i64 0, .bool false]) ∧ Below w'.heap.size w' w'' from by
                have h9 := (HZ2.out.below hb').find u
                rwa [show findR s u = .tuple #[.int .i64 0, .bool false] by unfold findR; rw [List.find?_eq_none.2 fun x hx => by simpa using hasN_false.1 hu x hx]] at h9))
              have HEND := hide (HB0.out.trans ((HZ2.out.bel).mono HB0.out.size))
              cases hN : hasN s.all name with
              | true =>
                obtain ⟨x, hx, hxn⟩ := hasN_true.1 hN
                rw [show findR s name = .tuple #[.int .i64 (x.id : Int), .bool true] by unfold findR; rw [find_uniq HZ.out.nn hx hxn]] at HFD
                have HFD := hide HFD
                have HCK := hide (show chkE name = 0 from hxn ▸ HZ.out.nv x hx)
                have HNT := hide hN
                clear hj hb hlt hx hN
                go_wp2_with fail
                refine Calls.mono HFD.out ?_
                rintro e w4 ⟨rfl, b4⟩
                have HB4 := hide b4
                clear b4
                go_wp2_with fail
                refine Calls.mono (HUQ.out w4 HB4.out) ?_
                rintro e w5 ⟨b5, _, hu⟩
                obtain ⟨kk, hk1, hk2, rfl⟩ := hu HCK.out
                have HB5 := hide (HB4.out.trans (b5.mono HB4.out.size))
                have HU2 := hide hk2
                have hk0 : kk ≠ 0 := by
                  rintro rfl
                  rw [nmB_zero, HNT.out] at hk2
                  cases hk2
                obtain ⟨u, hu9⟩ : ∃ u, u = nmB name kk := ⟨_, rfl⟩
                have hun : ¬ u = name := fun e => hk0 (nmB_inj (hu9.symm.trans (e.trans (nmB_zero name).symm)))
                rw [← hu9] at HU2 ⊢
                have q1 : (u.toList == name.toList) = false := (Lib.bytes_beq_false_iff _ _).2 hun
                clear b5 hu hk1 hk2 hk0 hu9 hun
                go_wp2_with fail
                refine Calls.mono (HFU.out w5 HB5.out u HU2.out) ?_
                rintro e w6 ⟨rfl, b6⟩
                have HB6 := hide (HB5.out.trans (b6.mono HB5.out.size))
                clear b6
                go_wp2_with fail
                go_ret
                exact ⟨rfl, HEND.out.trans (HB6.out.mono HEND.out.size)⟩
              | false =>
                rw [show findR s name = .tuple #[.int .i64 0, .bool false] by unfold findR; rw [List.find?_eq_none.2 fun x hx => by simpa using hasN_false.1 hN x hx]] at HFD
                have HFD := hide HFD
                have HNT := hide hN
                clear hj hb hlt hN
                by_cases hck : chkE name = 0
                · have HCK := hide hck
                  clear hck
                  go_wp2_with fail
                  refine Calls.mono HFD.out ?_
                  rintro e w4 ⟨rfl, b4⟩
                  have HB4 := hide b4
                  clear b4
                  go_wp2_with fail
                  refine Calls.mono (HUQ.out w4 HB4.out) ?_
                  rintro e w5 ⟨b5, _, hu⟩
                  obtain ⟨kk, hk1, hk2, rfl⟩ := hu HCK.out
                  have hk0 : kk = 0 := by
                    rcases Nat.eq_zero_or_pos kk with h9 | h9
                    · exact h9
                    · have := hk1 0 h9
                      rw [nmB_zero, HNT.out] at this
                      cases this
                  subst hk0
                  rw [nmB_zero]
                  have HB5 := hide (HB4.out.trans (b5.mono HB4.out.size))
                  have q1 : (name.toList == name.toList) = true := (Lib.bytes_beq_iff _ _).2 rfl
                  clear b5 hu hk1 hk2
                  go_wp2_with fail
                  refine Calls.mono (HFU.out w5 HB5.out name HNT.out) ?_
                  rintro e w6 ⟨rfl, b6⟩
                  have HB6 := hide (HB5.out.trans (b6.mono HB5.out.size))
                  clear b6
                  go_wp2_with fail
                  go_ret
                  exact ⟨rfl, HEND.out.trans (HB6.out.mono HEND.out.size)⟩
                · obtain ⟨ce, hce⟩ : ∃ ce, ce = chkE name := ⟨_, rfl⟩
                  have HCK := hide hck
                  have HCE := hide hce
                  have z1 : (ce != 0) = true := by rw [hce]; simpa using hck
                  have z2 : decide (ce = 0) = false := by rw [hce]; simpa using hck
                  clear hck hce
                  go_wp2_with fail
                  refine Calls.mono HFD.out ?_
                  rintro e w4 ⟨rfl, b4⟩
                  have HB4 := hide b4
                  clear b4
                  go_wp2_with fail
                  refine Calls.mono (HUQ.out w4 HB4.out) ?_
                  rintro e w5 ⟨b5, hu, _⟩
                  obtain rfl := hu HCK.out
                  rw [← HCE.out]
                  have HB5 := hide (HB4.out.trans (b5.mono HB4.out.size))
                  clear b5 hu
                  go_wp2_with fail
                  go_ret
                  exact ⟨rfl, HEND.out.trans (HB5.out.mono HEND.out.size)⟩
end Go.Proofs.YtnbhejbpofjamaaGreatDoor
