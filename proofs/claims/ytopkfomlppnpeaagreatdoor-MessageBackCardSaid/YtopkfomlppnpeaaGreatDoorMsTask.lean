/- MsTask. -/
import Derived.Test.YtopkfomlppnpeaaGreatDoorMsName
import Derived.Lib.AtoiAll
import Derived.Shelf.Strconv.ErrVarAll
namespace Go.Proofs.YtopkfomlppnpeaaGreatDoor.Ms
open Go.RowKit Go.Proofs.YtopkfomlppnpeaaGreatDoor

theorem bs_data (l : List UInt8) : (bs l).data.toList = l := by simp [bs]
def cutL (l : List UInt8) : List UInt8 × List UInt8 := if Lib.indexByte l 46 < 0 then (l, []) else (l.take (Lib.indexByte l 46).toNat, l.drop ((Lib.indexByte l 46).toNat + 1))
theorem index_lt : ∀ (l : List UInt8) (c : UInt8), Lib.indexByte l c < (l.length : Int) ∨ Lib.indexByte l c = -1
  | [], _ => .inr rfl
  | b :: l, c => by
    unfold Lib.indexByte
    split
    · left; simp
    · split
      · right; rfl
      · rcases index_lt l c with h | h
        · left; simp; omega
        · rename_i h2; simp [h] at h2
theorem ext_bs (l : List UInt8) (a b : Nat) : (bs l).extract a b = bs ((l.drop a).take (b - a)) := by
  apply ByteArray.ext
  apply Array.ext'
  rw [ByteArray.data_extract]
  simp [bs, List.extract]
set_option maxRecDepth 100000 in
set_option maxHeartbeats 1000000 in
theorem lcut_any (l : List UInt8) (w : World) (hl : l.length ≤ 140737488351232) : Calls Tryz.prog 158 #[.string (bs l), .string ⟨#[46]⟩] w fun e w' => (∃ b, e = .returned (.tuple #[.string (bs (cutL l).1), .string (bs (cutL l).2), .bool b])) ∧ Below w.heap.size w w' := by
  have HI := Lib.hid (fun w' => Tryz.stringslite_Index_one (bs l) 46 w')
  rw [bs_data] at HI
  obtain ⟨z, hz⟩ : ∃ z, z = Lib.indexByte l 46 := ⟨_, rfl⟩
  have hge := Lib.indexByte_ge l 46
  have hlt := index_lt l 46
  have hsz : (bs l).size = l.length := bs_size l
  have HC : Hid (cutL l = if z < 0 then (l, []) else (l.take z.toNat, l.drop (z.toNat + 1))) := Lib.hid (by rw [hz]; rfl)
  rw [← hz] at HI hge hlt
  clear hz
  by_cases h0 : z < 0
  · have t0 : decide ((0 : Int) ≤ z) = false := by simp; omega
    rw [show cutL l = (l, []) from by rw [HC.out, if_pos h0]]
    clear HC hlt hge h0
    go_enter Tryz.func158, Tryz.ntmps158
    go_wp2_with (go_at_call 163; refine (HI.out _).mono ?_; rintro e w2 ⟨rfl, rfl⟩)
    go_ret3
    exact ⟨⟨_, rfl⟩, Below.refl _ _⟩
  · obtain ⟨i, rfl⟩ : ∃ i : Nat, z = (i : Int) := ⟨z.toNat, by omega⟩
    rw [show cutL l = (l.take i, l.drop (i + 1)) from by rw [HC.out, if_neg h0]; simp]
    have hi : i < l.length := by omega
    have t0 : decide ((0 : Int) ≤ (i : Int)) = true := by simp
    have c1 : (0 : Int) ≤ (i : Int) := by omega
    have c2 : (i : Int) ≤ ((bs l).size : Int) := by omega
    have c3 : (0 : Int) ≤ (i : Int) + 1 := by omega
    have c4 : (i : Int) + 1 ≤ ((bs l).size : Int) := by omega
    clear HC hlt hge h0
    go_enter Tryz.func158, Tryz.ntmps158
    go_wp2_with (go_at_call 163; refine (HI.out _).mono ?_; rintro e w2 ⟨rfl, rfl⟩)
    go_region_o
    go_wp2
    go_ret3
    refine ⟨⟨true, ?_⟩, below_drewN 1⟩
    show Ending.returned (.tuple #[.string ((bs l).extract 0 i), .string ((bs l).extract (i + 1) l.length), .bool true]) = _
    rw [ext_bs, ext_bs, show (l.drop (i + 1)).take (l.length - (i + 1)) = l.drop (i + 1) from List.take_of_length_le (by rw [List.length_drop]; exact Nat.le_refl _)]
    rfl
set_option maxRecDepth 100000 in
theorem cut_any (l : List UInt8) (w : World) (hl : l.length ≤ 140737488351232) : Calls Tryz.prog 144 #[.string (bs l), .string ⟨#[46]⟩] w fun e w' => (∃ b, e = .returned (.tuple #[.string (bs (cutL l).1), .string (bs (cutL l).2), .bool b])) ∧ Below w.heap.size w w' := by
  go_enter Tryz.func144, Tryz.ntmps144
  go_wp2_with (go_at_call 158; refine (lcut_any l _ hl).mono ?_; rintro e w2 ⟨⟨b, rfl⟩, hb⟩; have HB := Lib.hid hb; clear hb)
  go_ret3
  exact ⟨⟨_, rfl⟩, HB.out⟩
/-- the errors that strconv keeps -/
def ErrV (w : World) : Prop := (∃ (tp : TypeId) (p : Value), w.var? Tryz.prog "strconv.ErrSyntax" = some #[.iface tp p]) ∧ ∃ (tp : TypeId) (p : Value), w.var? Tryz.prog "strconv.ErrRange" = some #[.iface tp p]
theorem var_below {w w' : World} {s : String} {v : Array Value} (h : w.var? Tryz.prog s = some v) (hb : Below w.heap.size w w') : w'.var? Tryz.prog s = some v := by
  unfold World.var? at *
  cases hq : Tryz.prog.globalNamed s with
  | none => rw [hq] at h; cases h
  | some g =>
    rw [hq] at h
    simp only [Option.bind_some] at h ⊢
    have hlt : g < w.heap.size := by
      rcases Nat.lt_or_ge g w.heap.size with h' | h'
      · exact h'
      · rw [Array.getElem?_eq_none h'] at h; cases h
    rw [hb.block g hlt]
    exact h
theorem ErrV.below {w w' : World} (h : ErrV w) (hb : Below w.heap.size w w') : ErrV w' := by
  obtain ⟨⟨tp, p, h1⟩, tq, q, h2⟩ := h
  exact ⟨⟨tp, p, var_below h1 hb⟩, tq, q, var_below h2 hb⟩
/-- is a text a task's name? -/
def tnB (l : List UInt8) : Bool := match Lib.atoiAll (cutL l).2 with
  | .ok n => taskO (cutL l).1 n == some l
  | _ => false
/-- what strconv.Atoi answers -/
theorem atoi_any (l : List UInt8) (w : World) (hl : l.length ≤ 140737488351232) (hE : ErrV w) : Calls Tryz.prog 145 #[.string (bs l)] w fun e w' => (∃ n : Int, ∃ v : Value, e = .returned (.tuple #[.int .i64 n, v]) ∧ ((Lib.atoiAll l = .ok n ∧ v = .nilIface) ∨ ((∀ m, Lib.atoiAll l ≠ .ok m) ∧ ∃ t p, v = .iface t p))) ∧ Below w.heap.size w w' := by
  have hs : (bs l).size = l.length := bs_size l
  have hd := bs_data l
  obtain ⟨⟨tp, p, h1⟩, tq, q, h2⟩ := hE
  cases hq : Lib.atoiAll l with
  | ok n =>
    refine (Tryz.strconv_Atoi_ok (bs l) (by rw [hs]; omega) n (by rw [hd]; exact hq) w).mono fun e w' ⟨he, hw⟩ => ⟨⟨n, .nilIface, he, .inl ⟨rfl, rfl⟩⟩, ?_⟩
    rcases hw with rfl | ⟨t, rfl⟩
    · exact Below.refl _ _
    · exact ⟨rfl, rfl, rfl, by rw [Lib.bytesWorld_size]; omega, fun j hj => Lib.bytesWorld_at_old w _ t j hj⟩
  | range =>
    exact (Tryz.strconv_Atoi_range_var (bs l) (by rw [hs]; omega) (by rw [hd]; exact hq) tq q w h2).mono fun e w' ⟨N, he, _, _, hw⟩ => ⟨⟨_, _, he, .inr ⟨(fun m hm => by cases hm), _, _, rfl⟩⟩, hw⟩
  | _ =>
    exact (Any.strconv_Atoi_syntax_var Tryz.laysC172 (bs l) (by rw [hs]; omega) (by rw [hd]; exact hq) tp p w h1).mono fun e w' ⟨N, he, _, _, hw⟩ => ⟨⟨_, _, he, .inr ⟨(fun m hm => by cases hm), _, _, rfl⟩⟩, hw⟩
theorem cutL_len (l : List UInt8) : (cutL l).1.length ≤ l.length ∧ (cutL l).2.length ≤ l.length := by
  unfold cutL
  split
  · simp
  · simp; omega
end Go.Proofs.YtopkfomlppnpeaaGreatDoor.Ms
