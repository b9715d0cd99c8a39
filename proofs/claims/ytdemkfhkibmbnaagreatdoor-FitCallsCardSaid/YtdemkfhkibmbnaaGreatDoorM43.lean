/- RdHold, RdAttrs. -/
import Derived.Test.YtdemkfhkibmbnaaGreatDoorM42
import Derived.Test.YtdemkfhkibmbnaaGreatDoorM41
set_option maxRecDepth 100000
set_option maxHeartbeats 8000000
namespace Go.Proofs.YtdemkfhkibmbnaaGreatDoor.Ru
open Go.RowKit Go.Proofs.YtdemkfhkibmbnaaGreatDoor
theorem digK_eq (v : List UInt8) : digK v = allB 12 dgt v := by
 unfold digK allB
 rw [Bool.eq_iff_iff]; simp only [Bool.and_eq_true, decide_eq_true_eq, List.all_eq_true]
 constructor
 ·rintro ⟨h1, h2, h3⟩; first | exact ⟨⟨h2, h3⟩, h1⟩ | exact ⟨h2, h3, h1⟩
 ·intro h; first | (obtain ⟨⟨h2, h3⟩, h1⟩ := h; exact ⟨h1, h2, h3⟩) | (obtain ⟨h2, h3, h1⟩ := h; exact ⟨h1, h2, h3⟩)
theorem digX_eq {v : List UInt8} (h : digK v = true) : digX v = digV v := by
 unfold digK at h
 simp only [Bool.and_eq_true, decide_eq_true_eq] at h
 unfold digX
 rw [if_pos h.1, List.take_of_length_le h.2.2]
theorem valAt_mem {A : List At} {nm v : List UInt8} (h : valAt A nm = some v) : ∃ a ∈ A, a.vl = v := by
 unfold valAt at h
 rw [Option.map_eq_some_iff] at h; obtain ⟨a, h1, h2⟩ := h; exact ⟨a, List.mem_of_find?_eq_some h1, h2⟩
def DHoldC (L : List Nd) (A : List At) (i : Nat) : Prop :=
 ∀ (v u : Value) (w : World), Row w v 6 L.length (rwC ndC L) → Row w u 2 A.length (rwC atC A) → Calls Tryz.prog 78 #[v, .int .i64 (i : Int), u] w fun r w' => r = .returned (.bool (hol L A i)) ∧ Below w.heap.size w w'
theorem dhold_step (L : List Nd) (A : List At) (hf : Fine L) (i : Nat) (hi : i < L.length) (hk : ∀ n ∈ L, 1 ≤ n.k ∧ n.k ≤ 9) (hat : attrsB A = true) (hvl : ∀ a ∈ A, a.vl.length ≤ 140737488351232) (ih : ∀ j, j < i → DHoldC L A j) : DHoldC L A i := by
 unfold DHoldC
 intro v u w hr hu; have HR := zz hr; have HU := zz hu; obtain ⟨n, hn⟩ : ∃ n, n = L[i] := ⟨_, rfl⟩; have HKR : Hid (1 ≤ n.k ∧ n.k ≤ 9) := zz (by rw [hn]; exact hk _ (List.getElem_mem _)); obtain ⟨p, c, rfl, hc1, hc2, -⟩ := id hr; obtain ⟨pu, cu, rfl, hu1, hu2, -⟩ := id hu; have HLC := zz (node_at hr hi); rw [← hn] at HLC; obtain ⟨b, o, rfl, hcell⟩ := HLC.o; have q0 := hcell 0 _ rfl; rw [Nat.add_zero] at q0; have q1 := hcell 1 _ rfl; have q2 := hcell 2 _ rfl; have q3 := hcell 3 _ rfl; have q4 := hcell 4 _ rfl; have q5 := hcell 5 _ rfl; have HEQ := zz (hol_eq (A := A) hf (List.getElem?_eq_getElem hi)); have HPA := zz (hf i _ (List.getElem?_eq_getElem hi)); rw [← hn] at HEQ HPA; have HI := zz hi; have hml : maxLen ≤ 9223372036854775807 := by decide
 have i0 : (0 : Int) ≤ (i : Int) := by omega
 have i1 : (i : Int) < (L.length : Int) := by omega
 have hl63 : (L.length : Int) ≤ 9223372036854775807 := by omega
 have ha63 : (A.length : Int) ≤ 9223372036854775807 := by omega
 obtain ⟨hv0, hhv⟩ : ∃ hv0, hv0 = hol L A i := ⟨_, rfl⟩; rw [← hhv] at HEQ ⊢; have HVL := zz hvl; have HAT := zz hat; clear hr hu hn hcell HLC hc1 hc2 hu1 hu2 hhv hml hvl hat hk hi; go_enter Tryz.func78, Tryz.ntmps78; go_upto_region 2 with fail; obtain ⟨Y, hY⟩ : ∃ Y, Y = w.heap.size := ⟨_, rfl⟩; refine at_hide (F := fun w' => Blk w' Y (ndC n) 69 ∧ Below w.heap.size w w') ⟨by rw [hY]; exact Blk.made w (ndC n) _, below_alloc _ _⟩ ?_; rw [← hY]; intro w1 hF; have HB1 : Hid (Below w.heap.size w w1) := zz (by have := hF.2; rw [hY] at this; exact this); have HY1 := zz hF.1; clear hF hY q0 q1 q2 q3 q4 q5; obtain ⟨kd, nm, vl, xx, na, nb⟩ := n; simp only at HEQ HPA HKR; go_upto_region 4 with fail
 go_loopw [8, 9, 10] (fun t v i wr => ∃ (k : Nat) (q : Option (List UInt8)), k ≤ A.length ∧ i = .int .i64 (k : Int) ∧ t = .bool q.isSome ∧ v = .string (bs (q.getD [])) ∧ Hid (lastV (A.take k) nm = q) ∧ Hid (Below w1.heap.size w1 wr)) (fun _ _ i _ => A.length - (intOf i).toNat)
 case atStart => exact ⟨0, none, Nat.zero_le _, rfl, rfl, rfl, zz rfl, zz (Below.refl _ _)⟩
 case round =>
  obtain ⟨k, q, hk, rfl, rfl, rfl, HLV, HB⟩ := hrel; have HB2 : Hid (Below w.heap.size w wr) := zz (below_and HB1.o HB.o); have HY2 := zz (HY1.o.kept HB.o); have HU2 := zz (HU.o.below HB2.o)
  by_cases hlt : k < A.length
  ·
   have HKN := zz hlt; obtain ⟨x, hx⟩ : ∃ x, x = A[k]'HKN.o := ⟨_, rfl⟩; have HATK := zz (attr_at HU2.o HKN.o); rw [← hx] at HATK; have HTK : Hid (lastV (A.take (k + 1)) nm = if x.nm == nm then some x.vl else q) := zz (by rw [lastV_take HKN.o, ← hx, HLV.o]); clear hx HLV; obtain ⟨bu, ou, rfl, a0, a1⟩ := HATK.o; have HA0 := zz a0; have HA1 := zz a1
   have p0 : ∀ s : Past wr, s.val.cell? ⟨bu, ou + k * 2, none⟩ = some (.string (bs x.nm)) := fun s => cell_kept HA0.o s.h
   have p1 : ∀ s : Past wr, s.val.cell? ⟨Y, 1, none⟩ = some (.string (bs nm)) := Past.blk HY2.o (j := 1) rfl; have i2 : (0 : Int) ≤ (k : Int) := by omega
   have i3 : (k : Int) < (A.length : Int) := by omega
   have hbq := bs_beq x.nm nm; obtain ⟨e, he⟩ : ∃ e, e = (x.nm == nm) := ⟨_, rfl⟩; rw [← he] at hbq HTK; clear he a0 a1 HATK; go_upto_region 6 with fail; cases e
   ·
    refine wp_region_past (by kernel_rfl) (by kernel_rfl) ?_
    repeat (go_big_quiet_step (fail))
    refine wpQuiet_past ?_; intro w5 h9; have HB5 : Hid (Below w1.heap.size w1 w5) := zz (below_and HB.o h9); clear h9; go_wp2; go_roundw
    case rel => exact ⟨k + 1, q, hlt, by go_num, rfl, rfl, zz (by rw [HTK.o]; rfl), HB5⟩
    case measure => simp [intOf]; omega
   ·
    refine wp_region_past (by kernel_rfl) (by kernel_rfl) ?_
    repeat (go_big_quiet_step (fail))
    refine wpQuiet_past ?_; intro w5 h9; have HB5 := zz h9
    have p2 : ∀ s : Past w5, s.val.cell? ⟨bu, ou + k * 2 + 1, none⟩ = some (.string (bs x.vl)) := fun s => cell_kept (cell_kept HA1.o HB5.o) s.h
    clear h9 hbq; go_upto_region 7 with fail; refine wp_region_past (by kernel_rfl) (by kernel_rfl) ?_
    repeat (go_big_quiet_step (fail))
    refine wpQuiet_past ?_; intro w6 h9; have HB6 : Hid (Below w1.heap.size w1 w6) := zz (below_and HB.o (below_and HB5.o h9)); clear h9; go_wp2; go_roundw
    case rel => exact ⟨k + 1, some x.vl, hlt, by go_num, rfl, rfl, zz (by rw [HTK.o]; rfl), HB6⟩
    case measure => simp [intOf]; omega
  ·
   have HVA : Hid (valAt A nm = q) := zz (by have h1 := HLV.o; rw [List.take_of_length_le (by omega), lastV_eq HAT.o] at h1; exact h1)
   have HQL : Hid ((q.getD []).length ≤ 140737488351232) := zz (by
    cases hq : q with
    | none => simp
    | some v => obtain ⟨a, h1, h2⟩ := valAt_mem (by rw [HVA.o, hq] : valAt A nm = some v); have := HVL.o a h1; rw [h2] at this; exact this)
   have HR2 := zz (HR.o.below HB2.o); have g0 : ¬ ((k : Int) < (A.length : Int)) := by omega
   obtain ⟨tv, htv⟩ : ∃ tv, tv = q.getD [] := ⟨_, rfl⟩; rw [← htv] at HQL ⊢; have HTV := zz htv; clear htv hlt hk HLV HB HR HU HY1 HB1; have HDG : Hid (∀ w, Calls Tryz.prog 104 #[.string (bs tv)] w fun e w' => e = .returned (.tuple #[.int .i64 (digX tv), .bool (digK tv)]) ∧ w = w') := zz (fun w => ddig_any tv w HQL.o); obtain ⟨dx, hdx⟩ : ∃ dx, dx = digX tv := ⟨_, rfl⟩; obtain ⟨dk, hdk⟩ : ∃ dk, dk = digK tv := ⟨_, rfl⟩; rw [← hdx, ← hdk] at HDG; have HDX := zz hdx; have HDK := zz hdk; clear hdx hdk; go_upto_region 9 with (go_at_call 104; refine (HDG.o _).mono ?_; rintro e w4 ⟨rfl, rfl⟩); obtain ⟨y0, y1, y2, y3, y4, y5⟩ := cl6 HY2.o
   have HAB : Hid (∀ (x : Int) (w' : World), 0 ≤ x → x < (i : Int) → Below wr.heap.size wr w' → Calls Tryz.prog 78 #[.slice (some ⟨b, o, none⟩) L.length c, .int .i64 x, .slice pu A.length cu] w' fun r w3 => r = .returned (.bool (hol L A x.toNat)) ∧ Below w'.heap.size w' w3) := zz (fun x w' h0 h1 hb => by
    have := ih x.toNat (by omega) _ _ w' (HR2.o.below hb) (HU2.o.below hb); rw [Int.toNat_of_nonneg h0] at this
    exact this)
   by_cases k1 : kd = 1
   ·subst k1
    have HRR : Hid (hv0 = true) := zz (by rw [HEQ.o]; simp [leafH]); go_wp2; go_ret; exact ⟨ret_bool HRR.o.symm, HB2.o⟩
   by_cases k2 : kd = 2
   ·
    subst k2; clear k1
    cases q with
    | none =>
     have HVV : Hid (valAt A nm = none) := HVA; have HRR : Hid (hv0 = false) := zz (by rw [HEQ.o]; simp [leafH, HVV.o]); go_wp2; go_ret; exact ⟨ret_bool HRR.o.symm, HB2.o⟩
    | some t =>
     have HVV : Hid (valAt A nm = some t) := HVA; have ht : tv = t := HTV.o; subst ht; have hbq := bs_beq tv vl; obtain ⟨q2, hq2⟩ : ∃ q2, q2 = (tv == vl) := ⟨_, rfl⟩; rw [← hq2] at hbq; have HRR : Hid (hv0 = q2) := zz (by rw [HEQ.o, hq2]; simp [leafH, HVV.o]); clear hq2; cases q2
     all_goals
      go_wp2; go_ret; exact ⟨ret_bool HRR.o.symm, HB2.o⟩
   by_cases k3 : kd = 3
   ·
    subst k3; clear k1 k2
    cases q with
    | none =>
     have HVV : Hid (valAt A nm = none) := HVA; have HRR : Hid (hv0 = true) := zz (by rw [HEQ.o]; simp [leafH, HVV.o]); go_wp2; go_ret; exact ⟨ret_bool HRR.o.symm, HB2.o⟩
    | some t =>
     have HVV : Hid (valAt A nm = some t) := HVA; have ht : tv = t := HTV.o; subst ht; have hbq := bs_beq tv vl; obtain ⟨q2, hq2⟩ : ∃ q2, q2 = (tv == vl) := ⟨_, rfl⟩; rw [← hq2] at hbq; have HRR : Hid (hv0 = (!q2)) := zz (by rw [HEQ.o, hq2]; simp [leafH, HVV.o]); clear hq2; cases q2
     all_goals
      go_wp2; go_ret; exact ⟨ret_bool HRR.o.symm, HB2.o⟩
   by_cases k4 : kd = 4
   ·
    subst k4; clear k1 k2 k3
    cases q with
    | none =>
     have HVV : Hid (valAt A nm = none) := HVA; have HRR : Hid (hv0 = false) := zz (by rw [HEQ.o]; simp [leafH, HVV.o]); go_wp2; go_ret; exact ⟨ret_bool HRR.o.symm, HB2.o⟩
    | some t =>
     have HVV : Hid (valAt A nm = some t) := HVA; have ht : tv = t := HTV.o; subst ht
     cases hdk : dk with
     | false =>
      have HRR : Hid (hv0 = false) := zz (by rw [HEQ.o]; have h9 := HDK.o; rw [hdk, digK_eq] at h9; simp [leafH, HVV.o, ← h9]); subst hdk; go_wp2; go_ret; exact ⟨ret_bool HRR.o.symm, HB2.o⟩
     | true =>
      have HD2 : Hid (allB 12 dgt tv = true ∧ digV tv = dx) := zz (by have h9 := HDK.o; rw [hdk] at h9; exact ⟨by rw [← digK_eq]; exact h9.symm, by rw [HDX.o, digX_eq h9.symm]⟩); subst hdk
      by_cases hle : (xx ≤ dx)
      ·
       have HRR : Hid (hv0 = true) := zz (by rw [HEQ.o]; simp [leafH, HVV.o, HD2.o.1, HD2.o.2, hle]); have t1 : decide (xx ≤ dx) = true := decide_eq_true hle; clear hle; go_wp2; go_ret; exact ⟨ret_bool HRR.o.symm, HB2.o⟩
      ·
       have HRR : Hid (hv0 = false) := zz (by rw [HEQ.o]; simp [leafH, HVV.o, HD2.o.1, HD2.o.2]; omega); have t1 : decide (xx ≤ dx) = false := decide_eq_false hle; clear hle; go_wp2; go_ret; exact ⟨ret_bool HRR.o.symm, HB2.o⟩
   by_cases k5 : kd = 5
   ·
    subst k5; clear k1 k2 k3 k4
    cases q with
    | none =>
     have HVV : Hid (valAt A nm = none) := HVA; have HRR : Hid (hv0 = false) := zz (by rw [HEQ.o]; simp [leafH, HVV.o]); go_wp2; go_ret; exact ⟨ret_bool HRR.o.symm, HB2.o⟩
    | some t =>
     have HVV : Hid (valAt A nm = some t) := HVA; have ht : tv = t := HTV.o; subst ht
     cases hdk : dk with
     | false =>
      have HRR : Hid (hv0 = false) := zz (by rw [HEQ.o]; have h9 := HDK.o; rw [hdk, digK_eq] at h9; simp [leafH, HVV.o, ← h9]); subst hdk; go_wp2; go_ret; exact ⟨ret_bool HRR.o.symm, HB2.o⟩
     | true =>
      have HD2 : Hid (allB 12 dgt tv = true ∧ digV tv = dx) := zz (by have h9 := HDK.o; rw [hdk] at h9; exact ⟨by rw [← digK_eq]; exact h9.symm, by rw [HDX.o, digX_eq h9.symm]⟩); subst hdk
      by_cases hle : (dx ≤ xx)
      ·
       have HRR : Hid (hv0 = true) := zz (by rw [HEQ.o]; simp [leafH, HVV.o, HD2.o.1, HD2.o.2, hle]); have t1 : decide (dx ≤ xx) = true := decide_eq_true hle; clear hle; go_wp2; go_ret; exact ⟨ret_bool HRR.o.symm, HB2.o⟩
      ·
       have HRR : Hid (hv0 = false) := zz (by rw [HEQ.o]; simp [leafH, HVV.o, HD2.o.1, HD2.o.2]; omega); have t1 : decide (dx ≤ xx) = false := decide_eq_false hle; clear hle; go_wp2; go_ret; exact ⟨ret_bool HRR.o.symm, HB2.o⟩
   by_cases k6 : kd = 6
   ·
    subst k6; clear k1 k2 k3 k4 k5; have HRR : Hid (hv0 = q.isSome) := zz (by rw [HEQ.o]; simp [leafH, HVA.o]); go_wp2; go_ret; exact ⟨ret_bool HRR.o.symm, HB2.o⟩
   by_cases k7 : kd = 7
   ·
    subst k7; clear k1 k2 k3 k4 k5 k6; have hpa := HPA.o na (by simp [parts]); obtain ⟨ja, hja⟩ : ∃ ja : Nat, na = (ja : Int) := ⟨na.toNat, by omega⟩; subst hja; have HJA : Hid (ja < i) := zz (by omega); have HJB : Hid (ja < i) := HJA; have HRR : Hid (hv0 = !(hol L A ja)) := zz (by rw [HEQ.o]; simp); have HBX := zz (Below.refl wr.heap.size wr); clear hpa HPA; go_wp2_with (go_at_call 78; refine (HAB.o _ _ (by omega) (by have := HJA.o; have := HJB.o; omega) HBX.o).mono ?_; rintro r w3 ⟨rfl, hb⟩; have HB3 := zz (below_and HBX.o hb); clear hb); go_ret; exact ⟨ret_bool (by first | (rw [HRR.o]; done) | (rw [HRR.o]; rfl)), below_and HB2.o HB3.o⟩
   by_cases k8 : kd = 8
   ·
    subst k8; clear k1 k2 k3 k4 k5 k6 k7; have hpa := HPA.o na (by simp [parts]); have hpb := HPA.o nb (by simp [parts]); obtain ⟨ja, hja⟩ : ∃ ja : Nat, na = (ja : Int) := ⟨na.toNat, by omega⟩; obtain ⟨jb, hjb⟩ : ∃ jb : Nat, nb = (jb : Int) := ⟨nb.toNat, by omega⟩; subst hja; subst hjb; have HJA : Hid (ja < i) := zz (by omega); have HJB : Hid (jb < i) := zz (by omega); have HRR : Hid (hv0 = (hol L A ja && hol L A jb)) := zz (by rw [HEQ.o]; simp); have HBX := zz (Below.refl wr.heap.size wr); obtain ⟨HL, hHL⟩ : ∃ HL : Int → Bool, ∀ j : Nat, HL (j : Int) = hol L A j := ⟨fun x => hol L A x.toNat, fun j => by simp⟩
    have HAC : Hid (∀ (x : Int) (w' : World), 0 ≤ x → x < (i : Int) → Below wr.heap.size wr w' → Calls Tryz.prog 78 #[.slice (some ⟨b, o, none⟩) L.length c, .int .i64 x, .slice pu A.length cu] w' fun r w3 => r = .returned (.bool (HL x)) ∧ Below w'.heap.size w' w3) := zz (fun x w' h0 h1 hb => by
     have := HAB.o x w' h0 h1 hb; rw [← hHL, Int.toNat_of_nonneg h0] at this
     exact this)
    rw [← hHL, ← hHL] at HRR; clear hpa hpb HPA hHL HAB; have HY3K : Hid (∀ w3, Below wr.heap.size wr w3 → w3.cell? ⟨Y, 5, none⟩ = some (.int .i64 (jb : Int))) := zz (fun w3 hb => (HY2.o.kept hb).cell (j := 5) rfl)
    cases hla : HL (ja : Int) with
    | true =>
     have HLA := zz hla; have hla1 := HLA.o; clear hla
     go_wp2_with (first
      | (go_at_call 78; refine (HAC.o _ _ (by omega) (by have := HJA.o; have := HJB.o; omega) HBX.o).mono ?_; rintro r w3 ⟨rfl, hb⟩; have HB3 := zz (below_and HBX.o hb); have y9 := HY3K.o _ (below_and HBX.o hb); clear hb HBX y5)
      | (go_at_call 78; refine (HAC.o _ _ (by omega) (by have := HJA.o; have := HJB.o; omega) HB3.o).mono ?_; rintro r w4 ⟨rfl, hb⟩; have HB4 := zz (below_and HB3.o hb); clear hb))
     go_ret; exact ⟨ret_bool (by first | (rw [HRR.o, HLA.o]; done) | (rw [HRR.o, HLA.o]; rfl)), below_and HB2.o HB4.o⟩
    | false =>
     have HLA := zz hla; have hla1 := HLA.o; clear hla; go_wp2_with (go_at_call 78; refine (HAC.o _ _ (by omega) (by have := HJA.o; have := HJB.o; omega) HBX.o).mono ?_; rintro r w3 ⟨rfl, hb⟩; have HB3 := zz (below_and HBX.o hb); clear hb); go_ret; exact ⟨ret_bool (by first | (rw [HRR.o, HLA.o]; done) | (rw [HRR.o, HLA.o]; rfl)), below_and HB2.o HB3.o⟩
   obtain rfl : kd = 9 := by have := HKR.o; omega
   clear k1 k2 k3 k4 k5 k6 k7 k8; have hpa := HPA.o na (by simp [parts]); have hpb := HPA.o nb (by simp [parts]); obtain ⟨ja, hja⟩ : ∃ ja : Nat, na = (ja : Int) := ⟨na.toNat, by omega⟩; obtain ⟨jb, hjb⟩ : ∃ jb : Nat, nb = (jb : Int) := ⟨nb.toNat, by omega⟩; subst hja; subst hjb; have HJA : Hid (ja < i) := zz (by omega); have HJB : Hid (jb < i) := zz (by omega); have HRR : Hid (hv0 = (hol L A ja || hol L A jb)) := zz (by rw [HEQ.o]; simp); have HBX := zz (Below.refl wr.heap.size wr); obtain ⟨HL, hHL⟩ : ∃ HL : Int → Bool, ∀ j : Nat, HL (j : Int) = hol L A j := ⟨fun x => hol L A x.toNat, fun j => by simp⟩
   have HAC : Hid (∀ (x : Int) (w' : World), 0 ≤ x → x < (i : Int) → Below wr.heap.size wr w' → Calls Tryz.prog 78 #[.slice (some ⟨b, o, none⟩) L.length c, .int .i64 x, .slice pu A.length cu] w' fun r w3 => r = .returned (.bool (HL x)) ∧ Below w'.heap.size w' w3) := zz (fun x w' h0 h1 hb => by
    have := HAB.o x w' h0 h1 hb; rw [← hHL, Int.toNat_of_nonneg h0] at this
    exact this)
   rw [← hHL, ← hHL] at HRR; clear hpa hpb HPA hHL HAB; have HY3K : Hid (∀ w3, Below wr.heap.size wr w3 → w3.cell? ⟨Y, 5, none⟩ = some (.int .i64 (jb : Int))) := zz (fun w3 hb => (HY2.o.kept hb).cell (j := 5) rfl)
   cases hla : HL (ja : Int) with
   | false =>
    have HLA := zz hla; have hla1 := HLA.o; clear hla
    go_wp2_with (first
     | (go_at_call 78; refine (HAC.o _ _ (by omega) (by have := HJA.o; have := HJB.o; omega) HBX.o).mono ?_; rintro r w3 ⟨rfl, hb⟩; have HB3 := zz (below_and HBX.o hb); have y9 := HY3K.o _ (below_and HBX.o hb); clear hb HBX y5)
     | (go_at_call 78; refine (HAC.o _ _ (by omega) (by have := HJA.o; have := HJB.o; omega) HB3.o).mono ?_; rintro r w4 ⟨rfl, hb⟩; have HB4 := zz (below_and HB3.o hb); clear hb))
    go_ret; exact ⟨ret_bool (by first | (rw [HRR.o, HLA.o]; done) | (rw [HRR.o, HLA.o]; rfl)), below_and HB2.o HB4.o⟩
   | true =>
    have HLA := zz hla; have hla1 := HLA.o; clear hla; go_wp2_with (go_at_call 78; refine (HAC.o _ _ (by omega) (by have := HJA.o; have := HJB.o; omega) HBX.o).mono ?_; rintro r w3 ⟨rfl, hb⟩; have HB3 := zz (below_and HBX.o hb); clear hb); go_ret; exact ⟨ret_bool (by first | (rw [HRR.o, HLA.o]; done) | (rw [HRR.o, HLA.o]; rfl)), below_and HB2.o HB3.o⟩
theorem dhold_any {L : List Nd} {A : List At} (hf : Fine L) (hk : ∀ n ∈ L, 1 ≤ n.k ∧ n.k ≤ 9) (hat : attrsB A = true) (hvl : ∀ a ∈ A, a.vl.length ≤ 140737488351232) : ∀ (m i : Nat), i < m → i < L.length → DHoldC L A i
 | 0, _, h, _ => absurd h (by omega)
 | m + 1, i, h, hi => dhold_step L A hf i hi hk hat hvl (fun j hj => dhold_any hf hk hat hvl m j (by omega) (by omega))
theorem specM_name (l : List UInt8) : specM 24 l = isNameB l := by
 unfold specM isNameB
 rw [Bool.eq_iff_iff]; simp only [Bool.and_eq_true, decide_eq_true_eq]
theorem wrdB_word (l : List UInt8) : wrdB l = wordB l := by
 unfold wrdB wordB allB
 rw [Bool.eq_iff_iff]; simp only [Bool.and_eq_true, decide_eq_true_eq, List.all_eq_true]
 constructor
 ·rintro ⟨⟨h1, h2⟩, h3⟩; first | exact ⟨⟨h2, h3⟩, h1⟩ | exact ⟨h2, h3, h1⟩
 ·intro h; first | (obtain ⟨⟨h2, h3⟩, h1⟩ := h; exact ⟨⟨h1, h2⟩, h3⟩) | (obtain ⟨h2, h3, h1⟩ := h; exact ⟨⟨h1, h2⟩, h3⟩)
theorem attrs_two (A : List At) : attrsR A = 0 ∨ attrsR A = 2 := by
 unfold attrsR
 split
 ·exact .inl rfl
 ·exact .inr rfl
theorem less_flip (a b : List UInt8) : Op.bytesLess b a = !(Op.bytesLess a b || a == b) := by
 rw [lt_less, lt_less]; rcases lt_tri a b with h | h | h
 ·have : ¬ b < a := fun g => lt_irr _ (List.lt_trans h g)
  simp [h, this]
 ·subst h; simp [lt_irr]
 ·have h1 : ¬ a < b := fun g => lt_irr _ (List.lt_trans h g)
  have h2 : a ≠ b := fun e => by subst e; exact lt_irr _ h
  simp [h, h1, h2]
theorem attrs_yes {A : List At} (h : attrsR A = 0) : attrsB A = true := by
 unfold attrsR at h
 split at h
 ·assumption
 ·cases h
theorem dattrs_any (v : Value) (A : List At) (w : World) (hv : Row w v 2 A.length (rwC atC A)) (ha : ∀ a ∈ A, a.nm.length ≤ 140737488351232 ∧ a.vl.length ≤ 140737488351232) : Calls Tryz.prog 27 #[v] w fun r w' => r = .returned (.int .i64 (attrsR A)) ∧ Below w.heap.size w w' := by
 obtain ⟨p, c, rfl, hc, hm, -⟩ := id hv; have HV := zz hv; have HA := zz ha; have hml : maxLen ≤ 9223372036854775807 := by decide
 have hn63 : (A.length : Int) ≤ 9223372036854775807 := by omega
 obtain ⟨n, hn⟩ : ∃ n, n = A.length := ⟨_, rfl⟩; have HLN := zz hn; rw [← hn] at hn63 ⊢; clear hv hc hm hml hn ha
 by_cases hlong : 16 < n
 ·have HR : Hid (attrsR A = 2) := zz (attr_long (by have := HLN.o; omega))
  have t1 : decide (16 < n) = true := decide_eq_true hlong; have t2 : decide ((16 : Int) < (n : Int)) = true := by simp; omega
  go_enter Tryz.func27, Tryz.ntmps27; go_wp2; go_ret; exact ⟨ret_int HR.o.symm, Below.refl _ _⟩
 have hl16 : n ≤ 16 := by omega
 have HL : Hid (n ≤ 16) := zz hl16; have t2 : decide ((16 : Int) < (n : Int)) = false := by simp; omega
 have t2' : decide (16 < n) = false := by simp; omega
 clear hlong; go_enter Tryz.func27, Tryz.ntmps27; go_upto_region 4 with fail; clear hl16 t2 t2'
 go_loopw [3] (fun i wr => ∃ k : Nat, k ≤ n ∧ i = .int .i64 (k : Int) ∧ Hid (∀ j (h : j < A.length), j < k → attrOk A j A[j] = true) ∧ Hid (Below w.heap.size w wr)) (fun i _ => n - (intOf i).toNat)
 case atStart => exact ⟨0, Nat.zero_le _, rfl, zz (fun j _ h => by omega), zz (Below.refl _ _)⟩
 case round =>
  obtain ⟨k, hk, rfl, HF, HB⟩ := hrel
  by_cases hlt : k < n
  rotate_left
  ·obtain rfl : k = n := by omega
   have HR : Hid (attrsR A = 0) := zz (attr_good (by have := HLN.o; have := HL.o; omega) (fun j h => HF.o j h (by have := HLN.o; omega))); go_wp2; go_ret; exact ⟨ret_int HR.o.symm, HB.o⟩
  have HKN : Hid (k < A.length) := zz (by have := HLN.o; omega); obtain ⟨x, hx⟩ : ∃ x, x = A[k]'HKN.o := ⟨_, rfl⟩; have HLC := zz (attr_at (HV.o.below HB.o) HKN.o); rw [← hx] at HLC; have HX := zz hx; have HXL := zz (HA.o x (by rw [hx]; exact List.getElem_mem _)); clear hx; obtain ⟨b, o, rfl, q0, q1⟩ := HLC.o; have HQ0 := zz q0; have HQ1 := zz q1
  have p0 : ∀ s : Past wr, s.val.cell? ⟨b, o + k * 2, none⟩ = some (.string (bs x.nm)) := fun s => cell_kept HQ0.o s.h
  have p1 : ∀ s : Past wr, s.val.cell? ⟨b, o + k * 2 + 1, none⟩ = some (.string (bs x.vl)) := fun s => cell_kept HQ1.o s.h
  clear HLC q0 q1; have i0 : (0 : Int) ≤ (k : Int) := by omega
  have i1 : (k : Int) < (n : Int) := by omega
  have HNM : Hid (∀ s : Past wr, Calls Tryz.prog 58 #[.string (bs x.nm), .int .i64 24] s.val fun r w' => r = .returned (.bool (isNameB x.nm)) ∧ Below s.val.heap.size s.val w') := zz (fun s => by
   have := dname_any 24 (bs x.nm) s.val (by omega) (by rw [bs_size]; exact HXL.o.1); rw [bs_data, specM_name] at this
   exact this.mono (fun r w' h => ⟨h.1, by rw [← h.2]; exact Below.refl _ _⟩))
  have HWD : Hid (∀ s : Past wr, Calls Tryz.prog 59 #[.string (bs x.vl)] s.val fun r w' => r = .returned (.bool (wordB x.vl)) ∧ Below s.val.heap.size s.val w') := zz (fun s => by
   have := word_any' x.vl s.val HXL.o.2; rw [wrdB_word] at this
   exact this.mono (fun r w' h => ⟨h.1, by rw [← h.2]; exact Below.refl _ _⟩))
  go_upto_region 6 with fail
  cases hnm : isNameB x.nm with
  | false =>
   rw [hnm] at HNM; have HN : Hid (∃ i, ∃ h : i < A.length, attrOk A i A[i] = false) := zz ⟨k, HKN.o, by rw [← HX.o]; unfold attrOk; rw [hnm]; rfl⟩; clear hnm; refine wp_region_past (by kernel_rfl) (by kernel_rfl) ?_
   repeat (go_big_quiet_step ((first | (go_at_call 58; exact past_call (HNM.o _)) | (go_at_call 59; exact past_call (HWD.o _)))))
   refine wpQuiet_past ?_; intro w5 h9; have HB9 : Hid (Below w.heap.size w w5) := zz (below_and HB.o h9); clear h9; go_wp2; go_ret; exact ⟨ret_int (attr_bad HN.o).symm, HB9.o⟩
  | true =>
   rw [hnm] at HNM; have HNT := zz hnm; clear hnm
   cases hwd : wordB x.vl with
   | false =>
    rw [hwd] at HWD; have HN : Hid (∃ i, ∃ h : i < A.length, attrOk A i A[i] = false) := zz ⟨k, HKN.o, by rw [← HX.o]; unfold attrOk; rw [hwd, HNT.o]; rfl⟩; clear hwd; refine wp_region_past (by kernel_rfl) (by kernel_rfl) ?_
    repeat (go_big_quiet_step ((first | (go_at_call 58; exact past_call (HNM.o _)) | (go_at_call 59; exact past_call (HWD.o _)))))
    refine wpQuiet_past ?_; intro w5 h9; have HB9 : Hid (Below w.heap.size w w5) := zz (below_and HB.o h9); clear h9; go_wp2; go_ret; exact ⟨ret_int (attr_bad HN.o).symm, HB9.o⟩
   | true =>
    rw [hwd] at HWD; have HWT := zz hwd; clear hwd
    by_cases hk0 : k = 0
    ·
     subst hk0; simp only [Nat.zero_mul, Nat.add_zero] at p0 p1
     have HF2 : Hid (∀ j (h : j < A.length), j < 0 + 1 → attrOk A j A[j] = true) := zz (fun j h hj => by
      obtain rfl : j = 0 := by omega
      rw [← HX.o]
      unfold attrOk
      rw [HNT.o, HWT.o]
      rfl)
     refine wp_region_past (by kernel_rfl) (by kernel_rfl) ?_
     repeat (go_big_quiet_step ((first | (go_at_call 58; exact past_call (HNM.o _)) | (go_at_call 59; exact past_call (HWD.o _)))))
     refine wpQuiet_past ?_; intro w5 h9; have HB9 : Hid (Below w.heap.size w w5) := zz (below_and HB.o h9); clear h9; go_wp2; go_roundw
     case rel => exact ⟨0 + 1, by omega, by go_num, HF2, HB9⟩
     case measure => simp [intOf]; omega
    obtain ⟨i, hi⟩ : ∃ i, k = i + 1 := ⟨k - 1, by omega⟩; subst hi; have HIN : Hid (i < A.length) := zz (by have := HKN.o; omega); obtain ⟨y, hy⟩ : ∃ y, y = A[i]'HIN.o := ⟨_, rfl⟩
    have HQ : Hid (wr.cell? ⟨b, o + i * 2, none⟩ = some (.string (bs y.nm))) := zz (by
     obtain ⟨b', o', e, h1, -⟩ := attr_at (HV.o.below HB.o) HIN.o; simp only [Option.some.injEq, Addr.mk.injEq, and_true] at e; obtain ⟨rfl, rfl⟩ := e
     rw [hy]; exact h1)
    have pq : ∀ s : Past wr, s.val.cell? ⟨b, o + i * 2, none⟩ = some (.string (bs y.nm)) := fun s => cell_kept HQ.o s.h
    have HOK : Hid (attrOk A (i + 1) x = !(Op.bytesLess x.nm y.nm || x.nm == y.nm)) := zz (by
     unfold attrOk leB
     rw [HNT.o, HWT.o, Nat.add_sub_cancel, List.getElem?_eq_getElem HIN.o, ← hy]
     simp)
    have u1 : IntKind.i64.wrap ((i : Int) + 1 - 1) = (i : Int) := by rw [IntKind.wrap_i64]; have := HKN.o; have := HLN.o; have := HL.o; omega
    have i3 : (i : Int) < (n : Int) := by omega
    have i2 : (0 : Int) ≤ (i : Int) := by omega
    have t0 : decide ((0 : Int) < (i : Int) + 1) = true := by first | (simp; done) | (simp; omega)
    have hbl := bs_less x.nm y.nm; have hbl' := (bs_less y.nm x.nm).trans (less_flip x.nm y.nm); have hbe := bs_beq x.nm y.nm; have hbe' := bs_beq y.nm x.nm; rw [show (y.nm == x.nm) = (x.nm == y.nm) from BEq.comm] at hbe'; obtain ⟨q1, hq1⟩ : ∃ q1, q1 = Op.bytesLess x.nm y.nm := ⟨_, rfl⟩; obtain ⟨q2, hq2⟩ : ∃ q2, q2 = (x.nm == y.nm) := ⟨_, rfl⟩; rw [← hq1] at hbl hbl' HOK; rw [← hq2] at hbe hbe' hbl' HOK; clear hq1 hq2 hy hk0
    by_cases hle : (q1 || q2) = true
    ·
     have HN : Hid (∃ i, ∃ h : i < A.length, attrOk A i A[i] = false) := zz ⟨i + 1, HKN.o, by rw [← HX.o, HOK.o, hle]; rfl⟩; cases q1 <;> cases q2 <;> (first | (exfalso; revert hle; decide) | skip)
     all_goals
      clear hle; simp only [Bool.or_true, Bool.true_or, Bool.not_true] at hbl'; refine wp_region_past (by kernel_rfl) (by kernel_rfl) ?_
      repeat (go_big_quiet_step ((first | (go_at_call 58; exact past_call (HNM.o _)) | (go_at_call 59; exact past_call (HWD.o _)))))
      refine wpQuiet_past ?_; intro w5 h9; have HB9 : Hid (Below w.heap.size w w5) := zz (below_and HB.o h9); clear h9; go_wp2; go_ret; exact ⟨ret_int (attr_bad HN.o).symm, HB9.o⟩
    ·
     have HF2 : Hid (∀ j (h : j < A.length), j < i + 1 + 1 → attrOk A j A[j] = true) := zz (fun j h hj => by
      by_cases e : j = i + 1
      ·subst e
       rw [← HX.o, HOK.o]
       simpa using hle
      ·exact HF.o j h (by omega))
     have hq1 : q1 = false := by cases q1 <;> simp_all
     have hq2 : q2 = false := by cases q2 <;> simp_all
     subst hq1; subst hq2; clear hle; simp only [Bool.or_false, Bool.not_false] at hbl'; refine wp_region_past (by kernel_rfl) (by kernel_rfl) ?_
     repeat (go_big_quiet_step ((first | (go_at_call 58; exact past_call (HNM.o _)) | (go_at_call 59; exact past_call (HWD.o _)))))
     refine wpQuiet_past ?_; intro w5 h9; have HB9 : Hid (Below w.heap.size w w5) := zz (below_and HB.o h9); clear h9; go_wp2; go_roundw
     case rel => exact ⟨(i + 1) + 1, by omega, by go_num, HF2, HB9⟩
     case measure => simp [intOf]; omega
theorem dholds_any (v u : Value) (L : List Nd) (A : List At) (w : World) (hv : Row w v 6 L.length (rwC ndC L)) (hu : Row w u 2 A.length (rwC atC A)) (hc : ∀ n ∈ L, n.nm.length ≤ 140737488351232 ∧ n.vl.length ≤ 140737488351232) (ha : ∀ a ∈ A, a.nm.length ≤ 140737488351232 ∧ a.vl.length ≤ 140737488351232) : Calls Tryz.prog 48 #[.agg #[v], u] w fun r w' => r = .returned (.tuple #[.bool (holdsR L A).1, .int .i64 (holdsR L A).2]) ∧ Below w.heap.size w w' := by
 have HV := zz hv; obtain ⟨p, c, rfl, hcp, hm, -⟩ := hv; obtain ⟨w0, hw0⟩ : ∃ w0, w0 = w.alloc (.cells #[.slice p L.length c] 26) := ⟨_, rfl⟩; obtain ⟨B, hB⟩ : ∃ B, B = w.heap.size := ⟨_, rfl⟩; have HB0 : Hid (Below w.heap.size w w0) := zz (by rw [hw0]; exact below_alloc w _); have X0 : Hid (Blk w0 B [.slice p L.length c] 26) := zz (by rw [hw0, hB]; exact Blk.made w [.slice p L.length c] _); have x0 := X0.o.cell (j := 0) rfl; have hml : maxLen ≤ 9223372036854775807 := by decide
 have hn63 : (L.length : Int) ≤ 9223372036854775807 := by omega
 have HCK : Hid (Calls Tryz.prog 36 #[.agg #[.slice p L.length c]] w0 fun r w' => r = .returned (.int .i64 (checkP L)) ∧ Below w0.heap.size w0 w') := zz (by have := dcheck_any _ L w0 (HV.o.below HB0.o) hc; rw [docChk_eq] at this; exact this); have HU := zz hu; have HAT : Hid (∀ w2, Below w.heap.size w w2 → Calls Tryz.prog 27 #[u] w2 fun r w' => r = .returned (.int .i64 (attrsR A)) ∧ Below w2.heap.size w2 w') := zz (fun w2 hb => dattrs_any u A w2 (HU.o.below hb) ha); obtain ⟨X, hX⟩ : ∃ X, X = (holdsR L A).1 := ⟨_, rfl⟩; obtain ⟨E, hE⟩ : ∃ E, E = (holdsR L A).2 := ⟨_, rfl⟩; rw [← hX, ← hE]; have HRR : Hid (X = (if checkP L = 0 then (if attrsR A = 0 then (hol L A (L.length - 1), 0) else (false, attrsR A)) else (false, checkP L) : Bool × Int).1 ∧ E = (if checkP L = 0 then (if attrsR A = 0 then (hol L A (L.length - 1), 0) else (false, attrsR A)) else (false, checkP L) : Bool × Int).2) := zz ⟨by rw [hX]; rfl, by rw [hE]; rfl⟩; clear hX hE; have HCX := zz hc; have HAX := zz ha
 by_cases hck : checkP L = 0
 rotate_left
 ·
  have hc2 : checkP L = 2 := (chk_two L).resolve_left hck; have HR1 : Hid (X = false ∧ E = 2) := zz (by have h := HRR.o; rw [if_neg hck, hc2] at h; exact h); rw [hc2] at HCK; clear hck hc2 hcp hm hml hc ha hu; go_enter Tryz.func48, Tryz.ntmps48; go_upto_region 1 with fail; rw [← hw0, ← hB]; clear hw0 hB; go_wp2_with (go_at_call 36; refine HCK.o.mono ?_; rintro r w2 ⟨rfl, hb⟩; have HB2 := zz (below_and HB0.o hb); have b2 := (X0.o.kept hb).cell (j := 0) rfl; have HX2 := zz (X0.o.kept hb); clear hb x0); go_ret2; exact ⟨by rw [HR1.o.1, HR1.o.2]; rfl, HB2.o⟩
 have HK0 := zz hck; rw [hck] at HCK
 by_cases hat : attrsR A = 0
 rotate_left
 ·
  have hc2 : attrsR A = 2 := (attrs_two A).resolve_left hat; have HR1 : Hid (X = false ∧ E = 2) := zz (by have h := HRR.o; rw [if_pos hck, if_neg hat, hc2] at h; exact h); rw [hc2] at HAT; clear hck hc2 hat hcp hm hml hc ha hu; go_enter Tryz.func48, Tryz.ntmps48; go_upto_region 1 with fail; rw [← hw0, ← hB]; clear hw0 hB; go_wp2_with (first | (go_at_call 36; refine HCK.o.mono ?_; rintro r w2 ⟨rfl, hb⟩; have HB2 := zz (below_and HB0.o hb); have b2 := (X0.o.kept hb).cell (j := 0) rfl; have HX2 := zz (X0.o.kept hb); clear hb x0) | (go_at_call 27; refine (HAT.o _ HB2.o).mono ?_; rintro r w3 ⟨rfl, hb⟩; have HB3 := zz (below_and HB2.o hb); have b3 := (HX2.o.kept hb).cell (j := 0) rfl; clear hb b2)); go_ret2; exact ⟨by rw [HR1.o.1, HR1.o.2]; rfl, HB3.o⟩
 have HR1 : Hid (X = hol L A (L.length - 1) ∧ E = 0) := zz (by have h := HRR.o; rw [if_pos hck, if_pos hat] at h; exact h)
 have HHO : Hid (∀ w2, Below w.heap.size w w2 → Calls Tryz.prog 78 #[.slice p L.length c, .int .i64 ((L.length - 1 : Nat) : Int), u] w2 fun r w' => r = .returned (.bool (hol L A (L.length - 1))) ∧ Below w2.heap.size w2 w') := zz (fun w2 hb => by
  obtain ⟨hf, h1, h2, h3⟩ := shaped_fine (check_yes0 hck); have hn := (chk_parts hck).2.1
  exact dhold_any hf (fun n hn' => by obtain ⟨i, hi, rfl⟩ := List.getElem_of_mem hn'; exact (leafy_dn (nodesC_leafy hn (List.getElem?_eq_getElem hi))).1) (attrs_yes hat) (fun a h => (ha a h).2) (L.length - 1 + 1) (L.length - 1) (by omega) (by omega) _ _ w2 (HV.o.below hb) (HU.o.below hb))
 obtain ⟨m, hm2⟩ : ∃ m, m = L.length - 1 := ⟨_, rfl⟩; have u1 : IntKind.i64.wrap ((L.length : Int) - 1) = (m : Int) := by rw [IntKind.wrap_i64]; have := (chk_parts hck).1; omega
 rw [← hm2] at HHO; obtain ⟨z, hz⟩ : ∃ z, z = hol L A (L.length - 1) := ⟨_, rfl⟩; rw [← hz] at HR1; rw [hm2, ← hz, ← hm2] at HHO; rw [hat] at HAT; clear hck hat hz hm2 hcp hm hml hc ha hu; go_enter Tryz.func48, Tryz.ntmps48; go_upto_region 1 with fail; rw [← hw0, ← hB]; clear hw0 hB; go_upto_region 3 with (first | (go_at_call 36; refine HCK.o.mono ?_; rintro r w2 ⟨rfl, hb⟩; have HB2 := zz (below_and HB0.o hb); have b2 := (X0.o.kept hb).cell (j := 0) rfl; have HX2 := zz (X0.o.kept hb); clear hb x0) | (go_at_call 27; refine (HAT.o _ HB2.o).mono ?_; rintro r w3 ⟨rfl, hb⟩; have HB3 := zz (below_and HB2.o hb); have b3 := (HX2.o.kept hb).cell (j := 0) rfl; clear hb b2)); go_wp2_with (go_at_call 78; refine (HHO.o _ HB3.o).mono ?_; rintro r w4 ⟨rfl, hb⟩; have HB4 := zz (below_and HB3.o hb); clear hb); go_ret2; exact ⟨by rw [HR1.o.1, HR1.o.2]; rfl, HB4.o⟩
