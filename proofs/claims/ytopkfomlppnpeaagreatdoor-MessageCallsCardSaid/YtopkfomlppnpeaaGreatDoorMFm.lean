/- , laid together: MsSum, MsFrame. -/
import Derived.Test.YtopkfomlppnpeaaGreatDoorMsCrc
import Derived.Test.YtopkfomlppnpeaaGreatDoorMRdr
import Derived.Deep.DeepCutAuto
import Derived.Test.YtopkfomlppnpeaaGreatDoorMNu
import Derived.Test.YtopkfomlppnpeaaGreatDoorMSep
import Derived.Deep.RegionHeld3
import Derived.Deep.RegionLaw
import Derived.Deep.RegionLawGrows
namespace Go.Proofs.YtopkfomlppnpeaaGreatDoor.Ms
open Go.RowKit Go.Proofs.YtopkfomlppnpeaaGreatDoor

theorem of32 (n : Nat) (h : n < 4294967296) : (BitVec.ofInt 32 (n : Int)).toNat = n := by
  rw [BitVec.toNat_ofInt]
  omega
theorem x32 (a b : Nat) (ha : a < 4294967296) (hb : b < 4294967296) : bits .xor .u32 (a : Int) (b : Int) = ((a ^^^ b : Nat) : Int) := by
  show IntKind.u32.wrap ((BitVec.ofInt 32 (a : Int) ^^^ BitVec.ofInt 32 (b : Int)).toNat : Int) = _
  rw [BitVec.toNat_xor, of32 a ha, of32 b hb]
  have := xor_lt ha hb
  unfold IntKind.wrap
  simp [IntKind.bits, IntKind.signed]
  omega
theorem a32 (a : Nat) (ha : a < 4294967296) : bits .and .u32 (a : Int) 1 = ((a % 2 : Nat) : Int) := by
  show IntKind.u32.wrap ((BitVec.ofInt 32 (a : Int) &&& BitVec.ofInt 32 1).toNat : Int) = _
  rw [BitVec.toNat_and, of32 a ha, show (BitVec.ofInt 32 1).toNat = 1 from by decide, Nat.and_one_is_mod]
  unfold IntKind.wrap
  simp [IntKind.bits, IntKind.signed]
  omega
def itr : Nat → Nat → Nat
  | 0, x => x
  | k + 1, x => stp (itr k x)
theorem itr_lt : ∀ (k : Nat) {x : Nat}, x < 4294967296 → itr k x < 4294967296
  | 0, _, h => h
  | k + 1, _, h => stp_lt (itr_lt k h)
theorem byB_itr (s : Nat) (c : UInt8) : byB s c = itr 8 (s ^^^ c.toNat) := rfl
set_option maxRecDepth 100000 in
set_option maxHeartbeats 1000000 in
theorem byByte_any (s : Nat) (c : UInt8) (w : World) (hs : s < 4294967296) : Calls Tryz.prog 157 #[.int .u32 s, .int .u8 c.toNat] w fun e w' => e = .returned (.int .u32 (byB s c)) ∧ w = w' := by
  have hc := c.toNat_lt
  have e1 : bits BinOp.xor IntKind.u32 (s : Int) ((c.toNat : Int) % 4294967296) = ((s ^^^ c.toNat : Nat) : Int) := by
    rw [show ((c.toNat : Int) % 4294967296) = (c.toNat : Int) by omega]
    exact x32 s c.toNat hs (by omega)
  have hx0 : s ^^^ c.toNat < 4294967296 := xor_lt hs (by omega)
  obtain ⟨x, hx⟩ : ∃ x, x = s ^^^ c.toNat := ⟨_, rfl⟩
  have HR : Hid (byB s c = itr 8 x) := Lib.hid (by rw [hx]; exact byB_itr s c)
  rw [← hx] at e1 hx0
  have HX := Lib.hid hx0
  clear hc hx hx0 hs
  go_enter Tryz.func157, Tryz.ntmps157
  go_upto_region 3 with fail
  (try rw [e1])
  clear e1
  go_loopw [0, 9] (fun vs vi wr => wr = w ∧ ∃ k : Nat, k ≤ 8 ∧ vi = .int .i64 k ∧ ∃ y : Nat, vs = .int .u32 y ∧ Hid (y = itr k x)) (fun _ vi _ => 8 - (intOf vi).toNat)
  case atStart => exact ⟨rfl, 0, by omega, by go_num, x, rfl, Lib.hid rfl⟩
  case round =>
    obtain ⟨rfl, k, hk, rfl, y, rfl, HY⟩ := hrel
    by_cases h8 : k = 8
    · subst h8
      have HQ : Hid (byB s c = y) := Lib.hid (by rw [HR.out, HY.out])
      go_wp2
      go_ret
      exact ⟨by rw [HQ.out]; rfl, rfl⟩
    · have i1 : (k : Int) < 8 := by omega
      have HYL : Hid (y < 4294967296) := Lib.hid (by rw [HY.out]; exact itr_lt k HX.out)
      have e2 := a32 y HYL.out
      by_cases h2 : y % 2 = 1
      · have t0 : (bits BinOp.and IntKind.u32 (y : Int) 1 == 1) = true := by rw [e2, h2]; rfl
        have e3 : bits BinOp.xor IntKind.u32 ((y : Int) / 2) 3988292384 = ((stp y : Nat) : Int) := by
          have := x32 (y / 2) poly (by have := HYL.out; omega) (by decide)
          unfold stp
          rw [if_pos h2]
          exact this
        have HYN : Hid (itr (k + 1) x = stp y) := Lib.hid (by rw [HY.out]; rfl)
        have H2 := Lib.hid h2
        clear h2 e2
        go_wp2
        go_roundw
        case rel => exact ⟨trivial, k + 1, by omega, by go_num, stp y, by first | rfl | rw [e3], Lib.hid HYN.out.symm⟩
        case measure => simp [intOf]; omega
      · have t0 : (bits BinOp.and IntKind.u32 (y : Int) 1 == 1) = false := by rw [e2]; simp; omega
        have e3 : (y : Int) / 2 = ((stp y : Nat) : Int) := by
          unfold stp
          rw [if_neg h2]
          omega
        have HYN : Hid (itr (k + 1) x = stp y) := Lib.hid (by rw [HY.out]; rfl)
        have H2 := Lib.hid h2
        clear h2 e2
        go_wp2
        go_roundw
        case rel => exact ⟨trivial, k + 1, by omega, by go_num, stp y, by first | rfl | rw [e3], Lib.hid HYN.out.symm⟩
        case measure => simp [intOf]; omega
theorem Rd.byteA {w : World} {p : Option Addr} {m c k : Nat} {l : List UInt8} (h : Rd w (.slice p m c) l) (hm : m = l.length) (hk : k < l.length) : ∃ b o, p = some ⟨b, o, none⟩ ∧ w.cell? ⟨b, o + k, none⟩ = some (.int .u8 ((l[k]).toNat : Int)) := by
  subst hm
  exact Rd.byte h hk
theorem inv32 (s : Nat) (hs : s < 4294967296) : bits BinOp.xor IntKind.u32 IntKind.u32.max (s : Int) = ((inv s : Nat) : Int) := by
  have := x32 4294967295 s (by decide) hs
  unfold inv
  rw [Nat.xor_comm]
  exact this
set_option maxRecDepth 100000 in
set_option maxHeartbeats 1000000 in
theorem more_any (s : Nat) (v : Value) (l : List UInt8) (w : World) (hs : s < 4294967296) (h : Rd w v l) : Calls Tryz.prog 140 #[.int .u32 s, v] w fun e w' => e = .returned (.int .u32 (more s l)) ∧ w = w' := by
  have HRD := Lib.hid h
  obtain ⟨p, c, rfl, hc, hm, -⟩ := h.parts
  unfold maxLen at hm
  have e1 := inv32 s hs
  have HI : Hid (inv s < 4294967296) := Lib.hid (inv_lt hs)
  obtain ⟨x, hx⟩ : ∃ x, x = inv s := ⟨_, rfl⟩
  have HM : Hid (more s l = inv (l.foldl byB x)) := Lib.hid (by rw [hx]; rfl)
  rw [← hx] at e1 HI
  obtain ⟨m, hmm⟩ : ∃ m, m = l.length := ⟨_, rfl⟩
  have HMM := Lib.hid hmm
  rw [← hmm] at HRD hc ⊢
  clear h hs hx hmm
  go_enter Tryz.func140, Tryz.ntmps140
  go_upto_region 3 with fail
  (try rw [e1])
  clear e1
  go_loopw [5, 12] (fun vs vi wr => wr = w ∧ ∃ k : Nat, k ≤ m ∧ vi = .int .i64 k ∧ ∃ y : Nat, vs = .int .u32 y ∧ Hid (y = (l.take k).foldl byB x)) (fun _ vi _ => m - (intOf vi).toNat)
  case atStart => exact ⟨rfl, 0, Nat.zero_le _, by go_num, x, rfl, Lib.hid rfl⟩
  case round =>
    obtain ⟨rfl, k, hk, rfl, y, rfl, HY⟩ := hrel
    have HYL : Hid (y < 4294967296) := Lib.hid (by rw [HY.out]; exact fold_lt _ HI.out)
    by_cases hlt : k < m
    · have HK : Hid (k < l.length) := Lib.hid (by rw [← HMM.out]; exact hlt)
      obtain ⟨b, o, rfl, hcell⟩ := Ms.Rd.byteA HRD.out HMM.out HK.out
      obtain ⟨z, hz⟩ : ∃ z, z = l[k]'HK.out := ⟨_, rfl⟩
      rw [← hz] at hcell
      have HN : Hid ((l.take (k + 1)).foldl byB x = byB y z) := Lib.hid (by rw [List.take_succ_eq_append_getElem HK.out, List.foldl_append, ← HY.out, ← hz]; rfl)
      clear hz
      have i1 : (k : Int) < (m : Int) := by omega
      go_wp2_with (go_at_call 157; refine (byByte_any y z _ HYL.out).mono ?_; rintro e w2 ⟨rfl, rfl⟩)
      go_roundw
      case rel => exact ⟨trivial, k + 1, hlt, by go_num, byB y z, rfl, Lib.hid HN.out.symm⟩
      case measure => simp [intOf]; omega
    · obtain rfl : k = m := by omega
      have HQ : Hid (more s l = inv y) := Lib.hid (by rw [HM.out, HY.out, HMM.out, List.take_length])
      have e2 := inv32 y HYL.out
      go_wp2
      go_ret
      exact ⟨congrArg (fun z : Nat => Ending.returned (.int .u32 (z : Int))) HQ.out.symm, rfl⟩
set_option maxRecDepth 100000 in
set_option maxHeartbeats 1000000 in
theorem sum_any (v : Value) (l : List UInt8) (w : World) (h : Rd w v l) : Calls Tryz.prog 138 #[v] w fun e w' => e = .returned (.int .u32 (more 0 l)) ∧ w = w' := by
  have h9 := more_any 0 v l w (by omega) h
  obtain ⟨r, hr⟩ : ∃ r, r = more 0 l := ⟨_, rfl⟩
  rw [← hr] at h9 ⊢
  clear hr
  have H : Hid (Calls Tryz.prog 140 #[.int .u32 0, v] w fun e w' => e = .returned (.int .u32 r) ∧ w = w') := h9
  clear h9
  obtain ⟨p, c, rfl, hc, hm, -⟩ := h.parts
  obtain ⟨m, hmm⟩ : ∃ m, m = l.length := ⟨_, rfl⟩
  rw [← hmm] at H ⊢
  clear h hc hm hmm
  go_enter Tryz.func138, Tryz.ntmps138
  go_wp2_with (go_at_call 140; refine H.out.mono ?_; rintro e w2 ⟨rfl, rfl⟩)
  go_ret
  exact ⟨rfl, rfl⟩
end Go.Proofs.YtopkfomlppnpeaaGreatDoor.Ms

namespace Go.Proofs.YtopkfomlppnpeaaGreatDoor.Ms
open Go.RowKit Go.Proofs.YtopkfomlppnpeaaGreatDoor

theorem rd_blk {w : World} {g : Nat} {l : List UInt8} (h : Blk w g (l.map B) 5) (hl : l.length ≤ 1000000000) : Rd w (.slice (some ⟨g, 0, none⟩) l.length l.length) l := by
  refine ⟨some ⟨g, 0, none⟩, l.length, rfl, Nat.le_refl _, by unfold maxLen; omega, by simp, bytes_one _, by simp, .inr ⟨g, 0, rfl, fun j u hj => ?_⟩⟩
  rw [Nat.zero_add]
  exact h.cell hj
theorem byte_of (n : Nat) : Value.int .u8 ((n : Int) % 256) = B (UInt8.ofNat n) := by
  show Value.int .u8 _ = Value.int .u8 _
  congr 1
theorem le4_cells (s : Nat) : (le4 s).map B = [.int .u8 ((s : Int) % 256), .int .u8 ((s : Int) / 256 % 256), .int .u8 ((s : Int) / 65536 % 256), .int .u8 ((s : Int) / 16777216 % 256)] := by
  have h1 := byte_of s
  have h2 := byte_of (s / 256)
  have h3 := byte_of (s / 65536)
  have h4 := byte_of (s / 16777216)
  rw [show ((s / 256 : Nat) : Int) = (s : Int) / 256 from by omega] at h2
  rw [show ((s / 65536 : Nat) : Int) = (s : Int) / 65536 from by omega] at h3
  rw [show ((s / 16777216 : Nat) : Int) = (s : Int) / 16777216 from by omega] at h4
  rw [h1, h2, h3, h4]
  rfl
set_option maxRecDepth 100000 in
set_option maxHeartbeats 2000000 in
theorem fput_any {base : Nat} (v : Value) (l : List UInt8) (s : Nat) (w : World) (h : Fresh base w v l) (hb : base ≤ w.heap.size) (hl : l.length ≤ 1000000000000) : Calls Tryz.prog 139 #[v, .int .u32 s] w fun e w' => ∃ v', e = .returned v' ∧ Fresh base w' v' (l ++ le4 s) ∧ Frp (fun k => v.ownBlock = some k) w w' := by
  obtain ⟨i0, hi, hz0, hz1, hz2⟩ := info_parts Tryz.uinfo
  have H := Lib.hid h
  obtain ⟨p, c, rfl⟩ := fresh_slice h
  obtain ⟨m, hm⟩ : ∃ m, m = l.length := ⟨_, rfl⟩
  have HM := Lib.hid hm
  have HO : Hid (w.ownsRow base 5 1 (.slice p m c) m (l.map B)) := Lib.hid (by rw [hm]; exact h)
  rw [← hm] at hl ⊢
  clear h hm
  have HC : Hid ((le4 s).map B = [.int .u8 ((s : Int) % 256), .int .u8 ((s : Int) / 256 % 256), .int .u8 ((s : Int) / 65536 % 256), .int .u8 ((s : Int) / 16777216 % 256)]) := Lib.hid (le4_cells s)
  have HSR : Hid (Src Tryz.prog 1 23 (.slice (some ⟨w.heap.size, 0, none⟩) 4 4) 4 [.int .u8 ((s : Int) % 256), .int .u8 ((s : Int) / 256 % 256), .int .u8 ((s : Int) / 65536 % 256), .int .u8 ((s : Int) / 16777216 % 256)] (w.alloc (.cells #[.int .u8 ((s : Int) % 256), .int .u8 ((s : Int) / 256 % 256), .int .u8 ((s : Int) / 65536 % 256), .int .u8 ((s : Int) / 16777216 % 256)] 5))) := Lib.hid (by
    have h9 := (rd_blk (l := le4 s) (by rw [HC.out]; exact Blk.made w [.int .u8 ((s : Int) % 256), .int .u8 ((s : Int) / 256 % 256), .int .u8 ((s : Int) / 65536 % 256), .int .u8 ((s : Int) / 16777216 % 256)] 5) (by rw [show (le4 s).length = 4 from rfl]; omega)).src Tryz.underlying23
    rw [HC.out] at h9
    exact h9)
  go_enter Tryz.func139, Tryz.ntmps139
  go_wp2_with (at_builtin; refine wpList_app _ rfl _ _ 23 23 rfl base 5 i0 (.int .u8 0) 1 1 Tryz.underlying23 hi hz0 hz1 hz2 rfl _ m _ rfl (own_fr HO.out (Fr.of_below (below_alloc w _) []) (fun _ _ => by simp)) _ 4 [.int .u8 ((s : Int) % 256), .int .u8 ((s : Int) / 256 % 256), .int .u8 ((s : Int) / 65536 % 256), .int .u8 ((s : Int) / 16777216 % 256)] rfl HSR.out (by unfold maxLen; omega) (by omega) (by simp; omega) ?_; intro v2 w2 ho2 hg2 _; have HO2 := Lib.hid ho2; have HG2 := Lib.hid hg2; clear ho2 hg2)
  go_ret
  refine ⟨_, rfl, ?_, (Frp.of_below (below_alloc w _) _).grown HG2.out (fun k hk => .inl hk)⟩
  have h9 := HO2.out
  rw [← HC.out] at h9
  rw [HM.out] at h9
  unfold Fresh
  rw [List.length_append, List.map_append]
  exact h9
theorem fresh_of {a base m : Nat} {w : World} {v : Value} {l x : List UInt8} {us : List Value} (h : w.ownsRow base 5 1 v (m + 4) (l.map B ++ us)) (hu : x.map B = us) (hm : m = l.length) (ha : a ≤ base) (hx : x.length = 4 := by rfl) : Fresh a w v (l ++ x) := by
  refine Fresh.mono (base := base) ?_ ha
  unfold Fresh
  rw [List.length_append, List.map_append, hu, hx, ← hm]
  exact h
theorem le4_len (x : Nat) : (le4 x).length = 4 := rfl
theorem hdr_len (k : UInt8) (n : Nat) : (hdr k n).length = 4 := rfl
theorem fresh_app {base n : Nat} {w : World} {v : Value} {l b : List UInt8} (h : w.ownsRow base 5 1 v (l.length + n) (l.map B ++ b.map B)) (hn : n = b.length) : Fresh base w v (l ++ b) := by
  unfold Fresh
  rw [List.length_append, List.map_append, ← hn]
  exact h
theorem below_frp {base : Nat} {w w1 w2 w' : World} {v : Value} {l : List UInt8} (h : Below base w w1) (hf : Fresh base w1 v l) (hb : Below w1.heap.size w1 w2) (hr : Frp (fun k => v.ownBlock = some k) w2 w') (h0 : base ≤ w1.heap.size := by omega) : Below base w w' :=
  (h.trans (hb.mono h0)).trans (hr.below (fun k hk => own_lo hf hk) (Nat.le_trans h0 hb.size))
theorem hdr_cells (k : UInt8) (n : Nat) : (hdr k n).map B = [.int .u8 (k.toNat : Int), .int .u8 ((n : Int) % 256), .int .u8 ((n : Int) / 256 % 256), .int .u8 ((n : Int) / 65536 % 256)] := by
  have h1 := byte_of n
  have h2 := byte_of (n / 256)
  have h3 := byte_of (n / 65536)
  rw [show ((n / 256 : Nat) : Int) = (n : Int) / 256 from by omega] at h2
  rw [show ((n / 65536 : Nat) : Int) = (n : Int) / 65536 from by omega] at h3
  rw [h1, h2, h3]
  rfl
set_option maxRecDepth 100000 in
set_option maxHeartbeats 2000000 in
theorem fapp_any (v vb : Value) (l : List UInt8) (k : UInt8) (body : List UInt8) (w : World) (h : Rd w v l) (hb : Rd w vb body) (hl : l.length ≤ 1000000000) (hn : body.length ≤ 1048576) : Calls Tryz.prog 111 #[v, .agg #[.int .u8 (k.toNat : Int), vb]] w fun e w' => ∃ v', e = .returned (.tuple #[v', .int .i64 0]) ∧ Fresh w.heap.size w' v' (l ++ frm k body) ∧ Below w.heap.size w w' := by
  obtain ⟨i0, hi, hz0, hz1, hz2⟩ := info_parts Tryz.uinfo
  obtain ⟨p, c, rfl⟩ := rd_slice h
  obtain ⟨q, d, rfl⟩ := rd_slice hb
  obtain ⟨m, hm⟩ : ∃ m, m = l.length := ⟨_, rfl⟩
  obtain ⟨n, hnn⟩ : ∃ n, n = body.length := ⟨_, rfl⟩
  obtain ⟨X, hX⟩ : ∃ X, X = w.heap.size := ⟨_, rfl⟩
  obtain ⟨w1, hw1⟩ : ∃ w1, w1 = w.alloc (.cells #[.int .u8 (k.toNat : Int), .slice q body.length d] 79) := ⟨_, rfl⟩
  have HX1 : Hid (Blk w1 X [.int .u8 (k.toNat : Int), .slice q body.length d] 79) := Lib.hid (by rw [hw1, hX]; exact Blk.made w [_, _] _)
  have HB1 : Hid (Below w.heap.size w w1) := Lib.hid (by rw [hw1]; exact below_alloc _ _)
  have HRD := Lib.hid (h.below HB1.out)
  have HRB := Lib.hid (hb.below HB1.out)
  have HRB0 := Lib.hid hb
  have HMM := Lib.hid hm
  have HNN := Lib.hid hnn
  rw [← hnn] at hn hw1 HX1 HRB HRB0 ⊢
  rw [← hm] at hl HRD ⊢
  clear h hb hm hnn
  go_enter Tryz.func111, Tryz.ntmps111
  go_upto_region 1 with fail
  rw [← hw1, ← hX]
  clear hw1 hX
  have x0 := HX1.out.cell (j := 0) rfl
  have x1 := HX1.out.cell (j := 1) rfl
  have t0 : ¬ (1048576 : Int) < (n : Int) := by omega
  go_upto_region 4 with fail
  have c1 : (0 : Int) ≤ (m : Int) := by omega
  have c2 : (m : Int) ≤ (c : Int) := by obtain ⟨_, _, h1, h2, -⟩ := HRD.out; simp at h1; omega
  have s0 : IntKind.u8.wrap (n : Int) = (n : Int) % 256 := by unfold IntKind.wrap; simp [IntKind.bits, IntKind.signed]
  have HSL : Hid (p = none → m = 0 ∧ m = 0) := Lib.hid (fun hp => by
    obtain ⟨_, _, h1, h2, h3, h4, h5, h6, h7⟩ := HRD.out
    simp at h1
    rcases h7 with h7 | ⟨b, o, h7, -⟩
    · have h9 : l = [] := by simpa using h7
      rw [HMM.out, h9]
      exact ⟨rfl, rfl⟩
    · rw [← h1.1, hp] at h7; cases h7)
  have HOL : Hid (∀ w', Below w1.heap.size w1 w' → ∀ (b : Addr), p = some b → ∀ (j : Nat) (u : Value), (l.map B)[j]? = some u → w'.cell? (b.add j) = some u) := Lib.hid (fun w' hw b hb j u hj => by
    obtain ⟨_, _, h1, h2, h3, h4, h5, h6, h7⟩ := (HRD.out.below hw)
    simp at h1
    rcases h7 with h7 | ⟨b', o, h7, h8⟩
    · rw [h7] at hj; simp at hj
    · rw [← h1.1, hb] at h7
      cases h7
      rw [Addr.add_lit]
      exact h8 j u hj)
  have HHC : Hid ((hdr k body.length).map B = [.int .u8 (k.toNat : Int), .int .u8 ((n : Int) % 256), .int .u8 ((n : Int) / 256 % 256), .int .u8 ((n : Int) / 65536 % 256)]) := Lib.hid (by rw [← HNN.out]; exact hdr_cells k n)
  have HBK : Hid (∀ (w' : World) (j : Nat) (u : Value), ([.int .u8 (k.toNat : Int), .int .u8 ((n : Int) % 256), .int .u8 ((n : Int) / 256 % 256), .int .u8 ((n : Int) / 65536 % 256)] : List Value)[j]? = some u → (w'.alloc (.cells #[.int .u8 (k.toNat : Int), .int .u8 ((n : Int) % 256), .int .u8 ((n : Int) / 256 % 256), .int .u8 ((n : Int) / 65536 % 256)] 5)).cell? ((⟨w'.heap.size, 0, none⟩ : Addr).add j) = some u) := Lib.hid (fun w' j u hj => by rw [Addr.add_lit, Nat.zero_add]; exact (Blk.made w' [.int .u8 (k.toNat : Int), .int .u8 ((n : Int) % 256), .int .u8 ((n : Int) / 256 % 256), .int .u8 ((n : Int) / 65536 % 256)] 5).cell hj)
  go_region_law (refine step_append_grows rfl (.tmp 19) (.tmp 30) 23 rfl 5 i0 (.int .u8 0) 1 1 Tryz.underlying23 hi hz0 hz1 hz2 rfl (by decide) p m m (l.map B) (by simp [Act.eval, Act.put]) HSL.out (by simp; exact HMM.out.symm) (HOL.out _ (by repeat (first | with_reducible exact Below.refl _ _ | with_reducible apply below_dr | with_reducible apply below_as))) ⟨w1.heap.size, 0, none⟩ 4 4 [.int .u8 (k.toNat : Int), .int .u8 ((n : Int) % 256), .int .u8 ((n : Int) / 256 % 256), .int .u8 ((n : Int) / 65536 % 256)] (by simp [Act.eval, Act.put]) rfl (fun j u hj => by first | exact HBK.out _ j u hj | exact cell_kept (HBK.out _ j u hj) (below_drewN 1)) (by simp [Value.oneCell']) (by omega) (by unfold maxLen; omega) (by omega) ?_; intro v2 w2 ho2 hg2; obtain ⟨p2, c2, rfl, hc2, -⟩ := own_slice ho2; have HB2 : Hid (Below w.heap.size w w2) := Lib.hid (below_and (below_and HB1.out (by repeat (first | with_reducible exact Below.refl _ _ | with_reducible apply below_dr | with_reducible apply below_as))) ((Fr.of_grown hg2).below (by simp) (Nat.le_refl _))); have HF2 : Hid (Fresh w.heap.size w2 (.slice p2 (m + 4) c2) (l ++ hdr k body.length)) := Lib.hid (fresh_of ho2 HHC.out HMM.out (Below.size (below_and HB1.out (by repeat (first | with_reducible exact Below.refl _ _ | with_reducible apply below_dr | with_reducible apply below_as))))); have HX2 := Lib.hid (HX1.out.kept (below_and (by repeat (first | with_reducible exact Below.refl _ _ | with_reducible apply below_dr | with_reducible apply below_as)) ((Fr.of_grown hg2).below (by simp) (Nat.le_refl _)))); have HRB2 := Lib.hid (HRB.out.below (below_and (by repeat (first | with_reducible exact Below.refl _ _ | with_reducible apply below_dr | with_reducible apply below_as)) ((Fr.of_grown hg2).below (by simp) (Nat.le_refl _)))); clear ho2 hg2)
  clear HOL HBK HSL x0 x1 HX1 HRD HRB
  have c3 : (0 : Int) ≤ (m : Int) := by omega
  have c4 : (m : Int) ≤ ((m : Int) + 4) := by omega
  have c5 : ((m : Int) + 4) ≤ (c2 : Int) := by omega
  have c6 : (m : Int) ≤ (c2 : Int) := by omega
  have HSUB : Hid (Rd w2 (.slice (Option.map (fun x => x.add m) p2) 4 (c2 - m)) (hdr k body.length)) := Lib.hid (by
    have h1 : Row w2 (.slice p2 (m + 4) c2) 1 (m + 4) ((l ++ hdr k body.length).map B) := by
      have h2 := HF2.out.rd
      have h3 : (l ++ hdr k body.length).length = m + 4 := by rw [List.length_append, HMM.out]; rfl
      unfold Rd at h2
      rw [h3] at h2
      exact h2
    have h4 := row_rest h1 (m := m) (by omega)
    rw [if_neg (by omega), show m + 4 - m = 4 by omega, Nat.mul_one] at h4
    rw [List.map_append, List.drop_append_of_le_length (by rw [List.length_map, HMM.out]; exact Nat.le_refl _), List.drop_of_length_le (by rw [List.length_map, HMM.out]; exact Nat.le_refl _), List.nil_append] at h4
    exact h4)
  obtain ⟨s, hs⟩ : ∃ s, s = more 0 (hdr k body.length) := ⟨_, rfl⟩
  have HS : Hid (Calls Tryz.prog 138 #[.slice (Option.map (fun x => x.add m) p2) 4 (c2 - m)] w2 fun e w' => e = .returned (.int .u32 s) ∧ w2 = w') := Lib.hid (by rw [hs]; exact sum_any _ _ _ HSUB.out)
  have HSE := Lib.hid hs
  have HSL : Hid (s < 4294967296) := Lib.hid (by rw [hs]; exact more_lt (by omega) _)
  have HSB : Hid (∀ w', Below w.heap.size w w' → Src Tryz.prog 1 23 (.slice q n d) n (body.map B) w') := Lib.hid (fun w' hw => by have h9 := (HRB0.out.below hw).src Tryz.underlying23; rw [← HNN.out] at h9; exact h9)
  have HL8 : Hid ((l ++ hdr k body.length ++ le4 s).length ≤ 1000000008) := Lib.hid (by rw [List.length_append, List.length_append, hdr_len, le4_len]; have := HMM.out; omega)
  clear hs HHC
  go_upto_region 6 with (go_at_call 138; refine HS.out.mono ?_; rintro e w3 ⟨rfl, rfl⟩)
  clear HS HSUB
  have HSS : Hid (∀ w', Blk w' X [.int .u8 (k.toNat : Int), .slice q n d] 79 → w'.cell? ⟨X, 0, none⟩ = some (.int .u8 (k.toNat : Int)) ∧ w'.cell? ⟨X, 1, none⟩ = some (.slice q n d)) := Lib.hid (fun w' h => ⟨h.cell (j := 0) rfl, h.cell (j := 1) rfl⟩)
  have HL4 : Hid ((l ++ hdr k body.length).length ≤ 1000000004) := Lib.hid (by rw [List.length_append, hdr_len]; have := HMM.out; omega)
  go_region_held3 (fun w' => w'.cell? ⟨X, 0, none⟩ = some (.int .u8 (k.toNat : Int)) ∧ w'.cell? ⟨X, 1, none⟩ = some (.slice q n d))
    ((refine HSS.out _ ?_ <;> (repeat (first | with_reducible exact HX4.out | with_reducible exact HX3.out | with_reducible exact HX2.out | with_reducible apply blk_dr))))
    (first
      | (refine step_app rfl (.tmp 39) (.tmp 41) 23 23 rfl w.heap.size 5 i0 (.int .u8 0) 1 1 Tryz.underlying23 hi hz0 hz1 hz2 rfl v3 _ _ (by rfl) HF3.out (.slice q n d) n (body.map B) (by rfl) (HSB.out _ (by repeat (first | with_reducible exact HB3.out | with_reducible apply below_dr))) (by have := HL8.out; unfold maxLen; omega) (by have := HL8.out; omega) (Below.size HB3.out) ?_; intro v4 w4 ho4 hg4 _ _; have HF4 := Lib.hid (fresh_app ho4 HNN.out); have HX4 := Lib.hid (HX3.out.grown hg4 (fun e => own_ty HF3.out HX3.out (by decide) e.symm)); have HB4 : Hid (Below w.heap.size w w4) := Lib.hid (HB3.out.trans ((Fr.of_grown hg4).below (by intro y hy; exact own_lo HF3.out (Option.mem_toList.1 hy)) HB3.out.size)); clear ho4 hg4)
      | (go_at_call 139; refine (fput_any _ _ s _ (fresh_w HF2.out (by repeat (first | with_reducible exact Below.refl _ _ | with_reducible apply below_dr))) (Below.size (below_and HB2.out (by repeat (first | with_reducible exact Below.refl _ _ | with_reducible apply below_dr)))) (by have := HL4.out; omega)).mono ?_; rintro e w3 ⟨v3, rfl, hf, hr⟩; have HF3 := Lib.hid hf; have HX3 := Lib.hid ((by repeat (first | with_reducible exact HX2.out | with_reducible apply blk_dr) : Blk _ X [.int .u8 (k.toNat : Int), .slice q n d] 79).frp hr (fun e => own_ty HF2.out HX2.out (by decide) e)); have HB3 : Hid (Below w.heap.size w w3) := Lib.hid (below_frp HB2.out HF2.out (by repeat (first | with_reducible exact Below.refl _ _ | with_reducible apply below_dr)) hr HB2.out.size); clear hf hr))
  have y1 := HX4.out.cell (j := 1) rfl
  obtain ⟨z, hz⟩ : ∃ z, z = more s body := ⟨_, rfl⟩
  have HMO : Hid (Calls Tryz.prog 140 #[.int .u32 s, .slice q n d] w4 fun e w' => e = .returned (.int .u32 z) ∧ w4 = w') := Lib.hid (by rw [hz]; exact more_any s _ body w4 HSL.out (by have h9 := HRB0.out.below HB4.out; exact h9))
  have HFR : Hid ((l ++ hdr k body.length ++ le4 s ++ body) ++ le4 z = l ++ frm k body) := Lib.hid (by unfold frm; rw [← HSE.out, ← hz]; simp)
  clear hz
  have HL9 : Hid ((l ++ hdr k body.length ++ le4 s ++ body).length ≤ 1100000000) := Lib.hid (by rw [List.length_append]; have := HL8.out; have := HNN.out; omega)
  go_wp2_with (first | (go_at_call 140; refine HMO.out.mono ?_; rintro e w5 ⟨rfl, rfl⟩) | (go_at_call 139; refine (fput_any _ _ z _ HF4.out HB4.out.size (by have := HL9.out; omega)).mono ?_; rintro e w6 ⟨v6, rfl, hf, hr⟩; have HF6 := Lib.hid hf; have HB6 : Hid (Below w.heap.size w w6) := Lib.hid (below_frp HB4.out HF4.out (Below.refl _ _) hr HB4.out.size); clear hf hr))
  go_ret2
  exact ⟨v6, rfl, by rw [← HFR.out]; exact HF6.out, HB6.out⟩
end Go.Proofs.YtopkfomlppnpeaaGreatDoor.Ms
