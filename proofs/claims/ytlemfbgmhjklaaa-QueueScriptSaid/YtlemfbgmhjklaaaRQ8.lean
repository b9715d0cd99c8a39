/- The document's queue as the rows: Put, Take, Peek, Drop. -/
import Derived.Test.YtlemfbgmhjklaaaRQ7
namespace Go.Proofs.Ytlemfbgmhjklaaa
open Go.RowKit

/-- the document's queue, its list, and the rows that it stands for -/
def RM (w : World) (g : Nat) (P : Nat → Prop) (L : List Pend) (M : List MRow) : Prop :=
  ∃ rv vL rw, RQ 0 w g rv vL rw L ∧ (∀ k, Pd g rv vL k → P k) ∧ Dq rw L M ∧ MI M

section
variable {w w' : World} {g : Nat} {P : Nat → Prop} {L : List Pend} {M : List MRow}
theorem RM.kept (h : RM w g P L M) (hb : Below w.heap.size w w') : RM w' g P L M := by
  obtain ⟨rv, vL, rw, h1, rest⟩ := h
  exact ⟨rv, vL, rw, h1.kept hb, rest⟩
theorem RM.mi (h : RM w g P L M) : MI M := by obtain ⟨rv, vL, rw, -, -, -, h⟩ := h; exact h
theorem RM.len (h : RM w g P L M) : L.length = (flatM M).length := by obtain ⟨rv, vL, rw, -, -, h, -⟩ := h; exact h.perm.length_eq
theorem RM.perm (h : RM w g P L M) : L.Perm (flatM M) := by obtain ⟨rv, vL, rw, -, -, h, -⟩ := h; exact h.perm
theorem RM.has (h : RM w g P L M) (t : Tid) : (L.any fun p => decide (p.task = t)) = hasM M t := by obtain ⟨rv, vL, rw, -, -, h, -⟩ := h; exact h.has t
theorem RM.fr {S : List Nat} (h : RM w g P L M) (hf : Fr S w w') (hs : ∀ k ∈ S, ¬ P k) : RM w' g P L M := by
  obtain ⟨rv, vL, rw, h1, h2, rest⟩ := h
  exact ⟨rv, vL, rw, h1.fr hf (fun k hk hp => hs k hk (h2 k hp)), h2, rest⟩
theorem RQ.pd_lt {base : Nat} {rv : Nat → Value} {vL : Value} {rw : Nat → List ByteArray} (h : RQ base w g rv vL rw L) {k : Nat} (hk : Pd g rv vL k) : k < w.heap.size := by
  rcases hk with rfl | ⟨b, hb, hk⟩ | hk
  · exact h.blk.lt
  · exact own_hi (h.rows b hb) hk
  · exact own_hi h.list hk
theorem RM.mono {Q : Nat → Prop} (h : RM w g P L M) (hp : ∀ k, P k → k < w.heap.size → Q k) : RM w g Q L M := by
  obtain ⟨rv, vL, rw, h1, h2, rest⟩ := h
  exact ⟨rv, vL, rw, h1, fun k hk => hp k (h2 k hk) (h1.pd_lt hk), rest⟩
theorem RM.cL (h : RM w g P L M) : ∃ p c, w.cell? ⟨g, 4, none⟩ = some (.slice p L.length c) ∧ w.ownsRow 0 29 4 (.slice p L.length c) L.length (pcells L) := by
  obtain ⟨rv, vL, rw, h1, -⟩ := h
  obtain ⟨p, c, rfl, -, -⟩ := own_slice h1.list
  exact ⟨p, c, h1.cL, h1.list⟩
theorem RM.step {rv rv' : Nat → Value} {vL vL' : Value} {rw' : Nat → List ByteArray} {L' : List Pend} {M' : List MRow} (h : RQ 0 w' g rv' vL' rw' L') (hs : RSt w w' g rv vL rv' vL') (hp : ∀ k, Pd g rv vL k → P k) (hd : Dq rw' L' M') (hm : MI M') :
    RM w' g (fun k => P k ∨ w.heap.size ≤ k) L' M' ∧ Frp P w w' :=
  ⟨⟨rv', vL', rw', h, fun k hk => (hs.new k hk).imp (hp k) id, hd, hm⟩, hs.fr.mono hp⟩
end
theorem users_len {M : List MRow} (h : MI M) (b : Nat) : (usersM M b).length ≤ (flatM M).length := by
  unfold usersM
  rw [List.length_map]
  exact Nat.le_trans (List.length_filter_le _ _) (flatM_ge h.ne)
theorem idxI_any {L : List Pend} {t : Tid} : ((L.any fun p => decide (p.task = t)) = false → idxI L t = -1) ∧ ((L.any fun p => decide (p.task = t)) = true → ∃ i, ∃ hi : i < L.length, idxI L t = (i : Int) ∧ L[i].task = t) := by
  constructor
  · intro h
    unfold idxI
    rw [idx_none]
    intro j hj e
    rw [List.any_eq_false] at h
    exact h L[j] (List.getElem_mem hj) (by simpa using e)
  · intro h
    have h1 : (idx L t).isSome = true := by
      rw [idx_isSome]
      simpa using h
    obtain ⟨i, hi⟩ := Option.isSome_iff_exists.1 h1
    have hi2 := hi
    unfold idx at hi2
    rw [List.findIdx?_eq_some_iff_getElem] at hi2
    obtain ⟨hil, hit, -⟩ := hi2
    exact ⟨i, hil, by unfold idxI; rw [hi], by simpa using hit⟩
theorem dropM_none {M : List MRow} (hm : MI M) {t : Tid} (hno : hasM M t = false) : dropM M t = M := by
  unfold dropM
  have e : (M.map fun m => (m.1, m.2.filter fun p => decide (p.task ≠ t))) = M := by
    refine (List.map_congr_left (g := id) fun m hmm => ?_).trans (List.map_id M)
    have : (m.2.filter fun p => decide (p.task ≠ t)) = m.2 := by
      rw [List.filter_eq_self]
      intro q hq
      simp only [ne_eq, decide_not, Bool.not_eq_true', decide_eq_false_iff_not]
      intro e
      have := hasM_iff.2 ⟨q, List.mem_flatMap.2 ⟨m, hmm, hq⟩, e⟩
      rw [hno] at this
      cases this
    rw [this]
    rfl
  rw [e, List.filter_eq_self]
  intro m hmm
  simpa using hm.ne m hmm

theorem rmput_any (g : Nat) (P : Nat → Prop) (L : List Pend) (M : List MRow) (p : Pend) (w : World) (h : RM w g P L M) (hl : (flatM M).length ≤ 80000) :
    Calls Try.prog 21 #[ptr g, pval p] w fun e w' => e = .returned (.int .i64 (putE M p)) ∧ ∃ L', RM w' g (fun k => P k ∨ w.heap.size ≤ k) L' (putS M p) ∧ Frp P w w' := by
  have hR := h
  have hlen := h.len
  obtain ⟨rv, vL, rw, h1, h2, h3, h4⟩ := h
  unfold putE putS
  by_cases hb : badP p
  · rw [if_pos hb, if_pos hb]
    refine (rput_bad 0 g p w hb).mono ?_
    rintro e w' ⟨rfl, hbl⟩
    exact ⟨rfl, L, (hR.kept hbl).mono (fun k hk _ => .inl hk), Frp.of_below hbl P⟩
  · rw [if_neg hb, if_neg hb]
    have ho := okP hb
    cases hq : hasM M p.task
    · rw [if_neg (by simp), if_neg (by simp)]
      have hband : 0 ≤ p.band ∧ p.band ≤ 3 := ⟨by have := ho.b0; omega, by have := ho.b3; omega⟩
      have hb4 : p.band.toNat < 4 := by omega
      have hbb : p.band = ((p.band.toNat : Nat) : Int) := by omega
      have hrb : (rw p.band.toNat).length ≤ 100000 := by rw [h3.rows _ hb4]; have := users_len h4 p.band.toNat; omega
      refine (rput_go 0 g p.band.toNat rv vL rw L p w h1 ho (idxI_any.1 (by rw [h3.has]; exact hq)) hb4 hbb (by omega) hrb).mono ?_
      rintro e w' ⟨rfl, rv', vL', hq', hs⟩
      refine ⟨rfl, L ++ [p], RM.step hq' hs h2 (h3.put h4 hband (fun b' hb' => ?_)) (h4.put hq hband)⟩
      unfold putW
      rw [h3.key h4]
      cases hk : keyM M p.key
      · rw [if_neg (by simp)]
        by_cases e : b' = p.band.toNat
        · subst e
          rw [updV_same, if_pos ⟨hbb, rfl⟩]
        · rw [updV_other _ _ e, if_neg (fun h => e (by have := h.1; omega)), List.append_nil]
      · rw [if_pos rfl, if_neg (by simp), List.append_nil]
    · rw [if_pos rfl, if_pos rfl]
      obtain ⟨i, hi, hix, -⟩ := idxI_any.2 (by rw [h3.has]; exact hq : (L.any fun q => decide (q.task = p.task)) = true)
      refine (rput_there 0 g rv vL rw L p w h1 ho (by rw [hix]; omega)).mono ?_
      rintro e w' ⟨rfl, hbl⟩
      exact ⟨rfl, L, (hR.kept hbl).mono (fun k hk _ => .inl hk), Frp.of_below hbl P⟩

/-- whose turn it is, in the list -/
theorem next_at {rw : Nat → List ByteArray} {L : List Pend} {m : MRow} {M0 : List MRow} (h3 : Dq rw L (m :: M0)) (h4 : MI (m :: M0)) : ∃ (b0 i : Nat) (p : Pend) (tl : List Pend), ∃ hi : i < L.length, b0 < 4 ∧ m.1.2 = (b0 : Int) ∧ rw b0 = m.1.1 :: usersM M0 b0 ∧ (∀ b, b < 4 → b0 < b → rw b = []) ∧ (∀ b, b < 4 → b ≠ b0 → rw b = usersM M0 b) ∧ m.2 = p :: tl ∧ headM (m :: M0) = some p ∧ firstI L (m.1.1, (b0 : Int)) = (i : Int) ∧ L[i] = p ∧ p.key = m.1 := by
  obtain ⟨b0, hb0, hmb, hr0, hr1, hr2⟩ := h3.next h4
  obtain ⟨p, tl, hp, hh⟩ := h4.head
  have hft := h3.tasks m List.mem_cons_self
  rw [hp] at hft
  obtain ⟨i, hi1, hi2⟩ := head_find hft
  obtain ⟨hil, hie⟩ := List.getElem?_eq_some_iff.1 hi2
  refine ⟨b0, i, p, tl, hil, hb0, hmb, hr0, hr1, hr2, hp, hh, ?_, hie, h4.own m List.mem_cons_self p (by rw [hp]; exact List.mem_cons_self)⟩
  unfold firstI
  have : (m.1.1, (b0 : Int)) = m.1 := by rw [← hmb]
  rw [this, hi1]

theorem rmtake_any (g : Nat) (P : Nat → Prop) (L : List Pend) (M : List MRow) (w : World) (h : RM w g P L M) (hl : (flatM M).length ≤ 80000) :
    Calls Try.prog 22 #[ptr g] w fun e w' => e = .returned (headV M) ∧ ∃ L', RM w' g (fun k => P k ∨ w.heap.size ≤ k) L' (takeM M) ∧ Frp P w w' := by
  have hR := h
  have hlen := h.len
  obtain ⟨rv, vL, rw, h1, h2, h3, h4⟩ := h
  cases M with
  | nil =>
    refine (rtake_none 0 g rv vL rw L w h1 h3.none).mono ?_
    rintro e w' ⟨rfl, hbl⟩
    exact ⟨rfl, L, (hR.kept hbl).mono (fun k hk _ => .inl hk), Frp.of_below hbl P⟩
  | cons m M0 =>
    obtain ⟨b0, i, p, tl, hi, hb0, hmb, hr0, hr1, hr2, hp, hh, hf, hip, hpk⟩ := next_at h3 h4
    have hu : L[i].user = m.1.1 := by rw [hip, ← hpk]; rfl
    have hbd : L[i].band = (b0 : Int) := by rw [hip, ← hmb, ← hpk]; rfl
    have hul : (usersM M0 b0).length ≤ 90000 := by
      have h5 := users_len h4 b0
      rw [← h3.rows b0 hb0, hr0, List.length_cons] at h5
      omega
    refine (rtake_some 0 g rv vL rw L i b0 m.1.1 (usersM M0 b0) w h1 hb0 hr0 hr1 hf hi hu hbd (by omega) hul).mono ?_
    rintro e w' ⟨rfl, rv', vL', hq', hs⟩
    refine ⟨?_, L.eraseIdx i, RM.step hq' hs h2 (h3.take h4 hp hi hip hb0 hmb ?_ (fun b hb hne => ?_)) h4.take⟩
    · unfold headV
      rw [hh, hip]
    · have e1 : (m.1.1, (b0 : Int)) = m.1 := by rw [← hmb]
      unfold leaveW
      rw [e1]
      cases hk : (L.eraseIdx i).any (kf m.1)
      · rw [if_neg (by simp), if_pos rfl, updV_same, updV_same]
      · rw [if_pos rfl, if_neg (by simp), updV_same]
    · unfold leaveW
      split
      · rw [updV_other _ _ hne]; exact hr2 b hb hne
      · rw [updV_other _ _ hne, updV_other _ _ hne]; exact hr2 b hb hne

theorem rmpeek_any (g : Nat) (P : Nat → Prop) (L : List Pend) (M : List MRow) (w : World) (h : RM w g P L M) :
    Calls Try.prog 23 #[ptr g] w fun e w' => e = .returned (headV M) ∧ Below w.heap.size w w' := by
  obtain ⟨rv, vL, rw, h1, h2, h3, h4⟩ := h
  cases M with
  | nil => exact rpeek_any 0 g rv vL rw L w h1 none (.inl ⟨rfl, h3.none⟩)
  | cons m M0 =>
    obtain ⟨b0, i, p, tl, hi, hb0, hmb, hr0, hr1, hr2, hp, hh, hf, hip, hpk⟩ := next_at h3 h4
    have hv : headV (m :: M0) = peekV L (some i) := by
      unfold headV
      rw [hh]
      show _ = Value.tuple #[pval (L.getD i pend0), .bool true]
      rw [List.getD_eq_getElem?_getD, List.getElem?_eq_getElem hi, hip]
      rfl
    rw [hv]
    exact rpeek_any 0 g rv vL rw L w h1 (some i) (.inr ⟨b0, hb0, m.1.1, usersM M0 b0, i, hr0, hr1, hf, hi, rfl⟩)

theorem rmdrop_any (g : Nat) (P : Nat → Prop) (L : List Pend) (M : List MRow) (t : Tid) (w : World) (h : RM w g P L M) (hl : (flatM M).length ≤ 80000) :
    Calls Try.prog 24 #[ptr g, tval t] w fun e w' => e = .returned (.int .i64 (if hasM M t = true then 0 else 6)) ∧ ∃ L', RM w' g (fun k => P k ∨ w.heap.size ≤ k) L' (dropM M t) ∧ Frp P w w' := by
  have hR := h
  have hlen := h.len
  obtain ⟨rv, vL, rw, h1, h2, h3, h4⟩ := h
  cases hq : hasM M t
  · rw [dropM_none h4 hq, if_neg (by simp)]
    refine (rdrop_none 0 g rv vL rw L t w h1 (idxI_any.1 (by rw [h3.has]; exact hq))).mono ?_
    rintro e w' ⟨rfl, hbl⟩
    exact ⟨rfl, L, (hR.kept hbl).mono (fun k hk _ => .inl hk), Frp.of_below hbl P⟩
  · rw [if_pos rfl]
    obtain ⟨i, hi, hix, hit⟩ := idxI_any.2 (by rw [h3.has]; exact hq : (L.any fun q => decide (q.task = t)) = true)
    have hpm : L[i] ∈ flatM M := h3.perm.mem_iff.1 (List.getElem_mem hi)
    obtain ⟨m, hm, hpm2⟩ := List.mem_flatMap.1 hpm
    have hbnd := h4.band m hm
    have hkey := h4.own m hm _ hpm2
    have hbe : L[i].band = m.1.2 := congrArg Prod.snd hkey
    have hb4 : L[i].band.toNat < 4 := by omega
    have hbb : L[i].band = ((L[i].band.toNat : Nat) : Int) := by omega
    have hrb : (rw L[i].band.toNat).length ≤ 100000 := by rw [h3.rows _ hb4]; have := users_len h4 L[i].band.toNat; omega
    refine (rdrop_some 0 g rv vL rw L t i L[i].band.toNat w h1 hix hi (by omega) hb4 hbb hrb).mono ?_
    rintro e w' ⟨rfl, rv', vL', hq', hs⟩
    rw [← hit]
    refine ⟨rfl, L.eraseIdx i, RM.step hq' hs h2 (h3.drop h4 hi (fun b' hb' => ?_)) (h4.drop _)⟩
    have e1 : (L[i].user, ((L[i].band.toNat : Nat) : Int)) = L[i].key := by rw [← hbb]; rfl
    unfold leaveW
    rw [e1]
    cases hk : (L.eraseIdx i).any (kf L[i].key)
    · rw [if_neg (by simp)]
      by_cases e : b' = L[i].band.toNat
      · rw [e, updV_same, if_pos ⟨hbb, rfl⟩]
      · rw [updV_other _ _ e, if_neg (fun h => e (by have := h.1; omega))]
    · rw [if_pos rfl, if_neg (by simp)]
end Go.Proofs.Ytlemfbgmhjklaaa
