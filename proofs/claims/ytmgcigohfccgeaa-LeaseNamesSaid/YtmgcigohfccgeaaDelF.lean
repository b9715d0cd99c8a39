/- slices.IndexFunc, slices.DeleteFunc over texts of the call's own, at a predicate that makes memory alone. -/
import Derived.Test.YtmgcigohfccgeaaFlat
import Derived.Test.YtmgcigohfccgeaaTexts
import Derived.Lib.SliceRun
import Derived.Shelf.Abstract
namespace Go.Proofs.Ytmgcigohfccgeaa
open Go.RowKit

/-- the predicate's contract, at one element, in every world in which no block but g of what was there has turned -/
def PredFr (f : FuncId) (caps : Array Value) (p : ByteArray → Bool) (g : Nat) (w : World) (s : ByteArray) : Prop :=
  ∀ w', Fr [g] w w' → Calls Try.prog f (#[.string s] ++ caps) w' fun e w'' => e = .returned (.bool (p s)) ∧ Below w'.heap.size w' w''

def strV (ns : List ByteArray) : List Value := ns.map Value.string
theorem strV_at {ns : List ByteArray} {k : Nat} (h : k < ns.length) : (strV ns)[k]? = some (.string ns[k]) := by
  unfold strV
  rw [List.getElem?_map, List.getElem?_eq_getElem h]; rfl
theorem strV_one (ns : List ByteArray) : ∀ u ∈ strV ns, u.oneCell' = true := by
  intro u hu
  obtain ⟨x, -, rfl⟩ := List.mem_map.1 hu
  rfl

/-- the first that the predicate takes -/
def firstP (p : ByteArray → Bool) (ns : List ByteArray) : Int := match ns.findIdx? p with | some k => (k : Int) | none => -1

set_option maxRecDepth 100000 in
set_option maxHeartbeats 1000000 in
theorem indexFunc_own (f : FuncId) (caps : Array Value) (p : ByteArray → Bool) (ns : List ByteArray) (base g cap : Nat) (w : World) (ho : w.ownsRow base 9 1 (.slice (some ⟨g, 0, none⟩) ns.length cap) ns.length (strV ns)) (hl : ns.length ≤ 1000000)
    (eg : ∀ args w, (callFunc f args).run Try.prog w = .ok (.enter f args) w) (hp : ∀ s ∈ ns, PredFr f caps p g w s) :
    Calls Try.prog 79 #[.slice (some ⟨g, 0, none⟩) ns.length cap, .func (.func f) #[] caps] w fun e w' => e = .returned (.int .i64 (firstP p ns)) ∧ Below w.heap.size w w' := by
  have hml : maxLen ≤ 9223372036854775807 := by decide
  have HO := Lib.hid ho
  have HP := Lib.hid hp

  have HCP : ns.length ≤ cap ∧ cap ≤ maxLen := by
    obtain ⟨p, c, e, h1, h2⟩ := own_slice ho
    simp only [Value.slice.injEq] at e
    obtain ⟨-, -, rfl⟩ := e
    exact ⟨h1, h2⟩
  clear ho hp
  go_enter Try.func79, Try.ntmps79
  go_wp2
  go_loopw [8] (fun i wr => ∃ k : Nat, k ≤ ns.length ∧ i = .int .i64 (k : Int) ∧ Hid (Below w.heap.size w wr) ∧ Hid (∀ j (hj : j < ns.length), j < k → p ns[j] = false)) (fun i _ => ns.length - (intOf i).toNat)
  case atStart => exact ⟨0, Nat.zero_le _, rfl, Lib.hid (Below.refl _ _), Lib.hid (fun j _ hj => absurd hj (Nat.not_lt_zero _))⟩
  case round =>
    obtain ⟨k, hk, rfl, HB, HN⟩ := hrel
    by_cases hlt : k < ns.length
    · obtain ⟨x, hx⟩ : ∃ x, x = ns[k] := ⟨_, rfl⟩
      have e0 : wr.cell? ⟨g, k, none⟩ = some (.string x) := cell_kept (own_cell HO.out (by rw [strV_at hlt, hx])) HB.out
      have HC := Lib.hid (HP.out x (by rw [hx]; exact List.getElem_mem hlt) wr (Fr.of_below HB.out _))
      have i1 : (k : Int) < (ns.length : Int) := by omega
      cases hq : p x
      · have HN2 : Hid (∀ j (hj : j < ns.length), j < k + 1 → p ns[j] = false) := Lib.hid (fun j hj hjk => by
          by_cases hjk2 : j < k
          · exact HN.out j hj hjk2
          · obtain rfl : j = k := by omega
            rw [← hx]; exact hq)
        have HQ := Lib.hid hq
        clear hx hq
        go_wp2_with (go_at_fn f; refine HC.out.mono ?_; rw [HQ.out]; rintro e w2 ⟨rfl, hb⟩; have HB2 := Lib.hid (below_and HB.out hb); clear hb)
        go_roundw
        case rel => exact ⟨k + 1, hlt, by go_num, HB2, HN2⟩
        case measure => simp [intOf]; omega
      · have HF : Hid (firstP p ns = (k : Int)) := Lib.hid (by
          have : ns.findIdx? p = some k := by
            rw [List.findIdx?_eq_some_iff_getElem]
            exact ⟨hlt, by rw [← hx]; exact hq, fun j hj => by rw [HN.out j (by omega) hj]; decide⟩
          unfold firstP
          rw [this])
        have HQ := Lib.hid hq
        clear hx hq
        go_wp2_with (go_at_fn f; refine HC.out.mono ?_; rw [HQ.out]; rintro e w2 ⟨rfl, hb⟩; have HB2 := Lib.hid (below_and HB.out hb); clear hb)
        go_ret
        exact ⟨ret_int HF.out.symm, HB2.out⟩
    · obtain rfl : k = ns.length := by omega
      have HF : Hid (firstP p ns = -1) := Lib.hid (by
        have : ns.findIdx? p = none := by
          rw [List.findIdx?_eq_none_iff]
          intro e he
          obtain ⟨j, hj, rfl⟩ := List.mem_iff_getElem.1 he
          exact HN.out j hj hj
        unfold firstP
        rw [this])
      go_wp2
      go_ret
      exact ⟨ret_int HF.out.symm, HB.out⟩

theorem filt_yes {q : ByteArray → Bool} {ns : List ByteArray} {j : Nat} (hj : j < ns.length) (h : q ns[j] = true) : (ns.take (j + 1)).filter q = (ns.take j).filter q ++ [ns[j]] := by
  rw [List.take_succ_eq_append_getElem hj, List.filter_append, List.filter_cons_of_pos h, List.filter_nil]
theorem filt_no {q : ByteArray → Bool} {ns : List ByteArray} {j : Nat} (hj : j < ns.length) (h : q ns[j] = false) : (ns.take (j + 1)).filter q = (ns.take j).filter q := by
  rw [List.take_succ_eq_append_getElem hj, List.filter_append, List.filter_cons_of_neg (by simp [h]), List.filter_nil, List.append_nil]
theorem strV_set (L : List ByteArray) (i : Nat) (x : ByteArray) : (strV L).set i (.string x) = strV (L.set i x) := by unfold strV; rw [List.map_set]
theorem strV_take (L : List ByteArray) (i : Nat) : (strV L).take i = strV (L.take i) := by unfold strV; rw [List.map_take]
/-- between two rounds: what is kept lies in front, what is still to come behind -/
structure Kp (p : ByteArray → Bool) (ns L : List ByteArray) (i j : Nat) : Prop where
  len : L.length = ns.length
  lt : i < j
  front : L.take i = (ns.take j).filter fun s => !p s
  back : L.drop j = ns.drop j
theorem Kp.at {p : ByteArray → Bool} {ns L : List ByteArray} {i j : Nat} (h : Kp p ns L i j) (hj : j < ns.length) : L[j]'(by rw [h.len]; exact hj) = ns[j] := by
  have h1 := congrArg (fun l => l[0]?) h.back
  simp only [List.getElem?_drop, Nat.add_zero] at h1
  rw [List.getElem?_eq_getElem hj, List.getElem?_eq_getElem (by rw [h.len]; exact hj)] at h1
  exact Option.some.inj h1
theorem Kp.keep {p : ByteArray → Bool} {ns L : List ByteArray} {i j : Nat} (h : Kp p ns L i j) (hj : j < ns.length) (hq : p ns[j] = false) : Kp p ns (L.set i ns[j]) (i + 1) (j + 1) := by
  have hl := h.len
  have hlt := h.lt
  refine ⟨by simpa using hl, by omega, ?_, ?_⟩
  · rw [filt_yes hj (by simp [hq]), ← h.front, List.take_succ_eq_append_getElem (by simp; omega), List.take_set_of_le (Nat.le_refl _)]
    simp
  · rw [List.drop_set_of_lt (by omega)]
    have := congrArg (List.drop 1) h.back
    simpa [List.drop_drop, Nat.add_comm] using this
theorem Kp.skip {p : ByteArray → Bool} {ns L : List ByteArray} {i j : Nat} (h : Kp p ns L i j) (hj : j < ns.length) (hq : p ns[j] = true) : Kp p ns L i (j + 1) := by
  have hlt := h.lt
  refine ⟨h.len, by omega, ?_, ?_⟩
  · rw [filt_no hj (by simp [hq]), h.front]
  · have := congrArg (List.drop 1) h.back
    simpa [List.drop_drop, Nat.add_comm] using this
theorem Kp.start {p : ByteArray → Bool} {ns : List ByteArray} {k : Nat} (h : ns.findIdx? p = some k) : Kp p ns ns k (k + 1) ∧ k < ns.length := by
  rw [List.findIdx?_eq_some_iff_getElem] at h
  obtain ⟨hk, h1, h2⟩ := h
  refine ⟨⟨rfl, by omega, ?_, rfl⟩, hk⟩
  rw [filt_no hk (by simp [h1]), List.filter_eq_self.2]
  intro a ha
  obtain ⟨j, hj, rfl⟩ := List.mem_iff_getElem.1 ha
  have hjk : j < k := by simp at hj; omega
  have := h2 j hjk
  simp only [List.getElem_take]
  simpa using this
theorem szero (w : World) : (zeroValue 9).run Try.prog w = .ok (.string ⟨#[]⟩) w := Try.zeroValue9 w

set_option maxRecDepth 100000 in
set_option maxHeartbeats 1000000 in
theorem deleteFunc_own (f : FuncId) (caps : Array Value) (p : ByteArray → Bool) (ns : List ByteArray) (base g cap : Nat) (w : World) (ho : w.ownsRow base 9 1 (.slice (some ⟨g, 0, none⟩) ns.length cap) ns.length (strV ns)) (hl : ns.length ≤ 1000000)
    (eg : ∀ args w, (callFunc f args).run Try.prog w = .ok (.enter f args) w) (hp : ∀ s ∈ ns, PredFr f caps p g w s) (m : Nat) (hm : m = (ns.filter fun s => !p s).length) :
    Calls Try.prog 65 #[.slice (some ⟨g, 0, none⟩) ns.length cap, .func (.func f) #[] caps] w fun e w' => e = .returned (.slice (some ⟨g, 0, none⟩) m cap) ∧ w'.ownsRow base 9 1 (.slice (some ⟨g, 0, none⟩) m cap) m (strV (ns.filter fun s => !p s)) ∧ Fr [g] w w' := by
  have hml : maxLen ≤ 9223372036854775807 := by decide
  have HIX := Lib.hid (indexFunc_own f caps p ns base g cap w ho hl eg hp)
  have HO := Lib.hid ho
  have HP := Lib.hid hp
  have HCP : ns.length ≤ cap ∧ cap ≤ maxLen := by
    obtain ⟨p, c, e, h1, h2⟩ := own_slice ho
    simp only [Value.slice.injEq] at e
    obtain ⟨-, -, rfl⟩ := e
    exact ⟨h1, h2⟩
  have HM := Lib.hid hm
  clear ho hp hm
  cases hfi : ns.findIdx? p with
  | none =>
    have HF : Hid (firstP p ns = -1) := Lib.hid (by unfold firstP; rw [hfi])
    have HE : Hid ((ns.filter fun s => !p s) = ns) := Lib.hid (by
      rw [List.filter_eq_self]
      intro a ha
      rw [List.findIdx?_eq_none_iff] at hfi
      simpa using hfi a ha)
    clear hfi
    go_enter Try.func65, Try.ntmps65
    go_wp2_with (go_at_call 79; refine HIX.out.mono ?_; rw [HF.out]; rintro e w1 ⟨rfl, hb⟩; have HB := Lib.hid hb; clear hb)
    go_ret
    have hmm := HM.out
    rw [HE.out] at hmm ⊢
    subst hmm
    exact ⟨rfl, own_fr HO.out (Fr.of_below HB.out []) (fun _ _ => by simp), Fr.of_below HB.out _⟩
  | some k =>
    obtain ⟨hK, hk⟩ := Kp.start hfi
    have HF : Hid (firstP p ns = (k : Int)) := Lib.hid (by unfold firstP; rw [hfi])
    have HK := Lib.hid hK
    have q0 : ((k : Int) == -1) = false := beq_eq_false_iff_ne.2 (by omega)
    clear hfi hK
    go_enter Try.func65, Try.ntmps65
    go_wp2_with (go_at_call 79; refine HIX.out.mono ?_; rw [HF.out]; rintro e w1 ⟨rfl, hb⟩; have HB := Lib.hid hb; clear hb)
    go_loopw [5, 6] (fun s5 s6 wr => ∃ (i j : Nat) (L : List ByteArray), s5 = .int .i64 (i : Int) ∧ s6 = .int .i64 (j : Int) ∧ j ≤ ns.length ∧ Hid (Kp p ns L i j) ∧ Hid (wr.ownsRow base 9 1 (.slice (some ⟨g, 0, none⟩) ns.length cap) ns.length (strV L)) ∧ Hid (Fr [g] w wr)) (fun _ s6 _ => ns.length - (intOf s6).toNat)
    case atStart => exact ⟨k, k + 1, ns, rfl, by go_num, by omega, HK, Lib.hid (own_fr HO.out (Fr.of_below HB.out []) (fun _ _ => by simp)), Lib.hid (Fr.of_below HB.out _)⟩
    case round =>
      obtain ⟨i, j, L, rfl, rfl, hj, HKP, HOL, HFR⟩ := hrel
      have hij := HKP.out.lt
      by_cases hlt : j < ns.length
      · obtain ⟨x, hx⟩ : ∃ x, x = ns[j] := ⟨_, rfl⟩
        have e0 : wr.cell? ⟨g, j, none⟩ = some (.string x) := own_cell HOL.out (by rw [strV_at (by rw [HKP.out.len]; exact hlt), HKP.out.at hlt, hx])
        have HC := Lib.hid (HP.out x (by rw [hx]; exact List.getElem_mem hlt) wr HFR.out)
        have i1 : (j : Int) < (ns.length : Int) := by omega
        have hiL : i < L.length := by rw [HKP.out.len]; omega
        obtain ⟨y, hy⟩ : ∃ y, y = L[i] := ⟨_, rfl⟩
        have HCI : Hid ((strV L)[i]? = some (.string y)) := Lib.hid (by rw [strV_at hiL, hy])
        cases hq : p x
        · have HQ := Lib.hid hq
          have HKN : Hid (Kp p ns (L.set i x) (i + 1) (j + 1)) := Lib.hid (by have := HKP.out.keep hlt (by rw [← hx]; exact hq); rwa [← hx] at this)
          clear hx hq hy
          go_wp2_with (go_at_fn f; refine HC.out.mono ?_; rw [HQ.out]; rintro e w2 ⟨rfl, hb⟩; have hoL := own_fr HOL.out (Fr.of_below hb []) (fun _ _ => by simp); have c2 := own_cell hoL HCI.out; have f2 := own_free hoL i; have HO2 := Lib.hid hoL; have HB2 : Hid (Fr [g] w w2) := Lib.hid (HFR.out.then (Fr.of_below hb _)); clear hb hoL)
          go_roundw
          case rel => exact ⟨i + 1, j + 1, L.set i x, by go_num, by go_num, hlt, HKN, Lib.hid (by have := own_set HO2.out (k := i) (by omega) (.string x); rwa [strV_set] at this), Lib.hid (HB2.out.set (p := ⟨g, i, none⟩) (by simp) _)⟩
          case measure => simp [intOf]; omega
        · have HQ := Lib.hid hq
          have HKN : Hid (Kp p ns L i (j + 1)) := Lib.hid (HKP.out.skip hlt (by rw [← hx]; exact hq))
          clear hx hq hy
          go_wp2_with (go_at_fn f; refine HC.out.mono ?_; rw [HQ.out]; rintro e w2 ⟨rfl, hb⟩; have HO2 := Lib.hid (own_fr HOL.out (Fr.of_below hb []) (fun _ _ => by simp)); have HB2 : Hid (Fr [g] w w2) := Lib.hid (HFR.out.then (Fr.of_below hb _)); clear hb)
          go_roundw
          case rel => exact ⟨i, j + 1, L, rfl, by go_num, hlt, HKN, HO2, HB2⟩
          case measure => simp [intOf]; omega
      · obtain rfl : j = ns.length := by omega
        have HIM : Hid (i = m) := Lib.hid (by
          have h1 := congrArg List.length HKP.out.front
          rw [List.take_length] at h1
          rw [HM.out, ← h1, List.length_take, HKP.out.len]
          omega)
        have hcl : ∀ ty, (Builtin.clear_ #[44] ty #[.slice (some ⟨g, i, none⟩) (ns.length - i) (cap - i)]).run Try.prog wr = .ok (.tuple #[]) (wr.setCells g i (List.replicate (ns.length - i) (.string ⟨#[]⟩))) :=
          fun ty => Lib.run_clear_slice wr _ _ ty _ Try.underlying44 szero rfl rfl g i _ _ (by omega) (fun t ht => by
            have : i + t < L.length := by rw [HKP.out.len]; omega
            rw [own_cell HOL.out (strV_at this)]; rfl) (fun t ht => own_free HOL.out _)
        have i3 : i ≤ cap := by omega
        have HE : Hid (strV (ns.filter fun s => !p s) = (setRun (strV L) i (List.replicate (ns.length - i) (.string ⟨#[]⟩))).take (i * 1)) := Lib.hid (by
          have h1 := HKP.out.front
          rw [List.take_length] at h1
          rw [Nat.mul_one, setRun_take _ _ _ _ (Nat.le_refl _), strV_take, h1])
        go_wp2
        go_ret
        rw [HE.out, ← HIM.out]
        refine ⟨rfl, own_cut (own_setRun _ _ _ _ HOL.out (by simp; omega)) (by omega), fr_setCells (by simp) _ _ _ _ HFR.out⟩
end Go.Proofs.Ytmgcigohfccgeaa
