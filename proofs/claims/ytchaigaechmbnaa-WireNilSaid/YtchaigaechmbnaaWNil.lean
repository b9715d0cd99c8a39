/- A reader that is not there, or that nobody made. -/
import Derived.Test.YtchaigaechmbnaaWReads
namespace Go.Proofs.Ytchaigaechmbnaa
open Go.RowKit

/-- a reader that is not there, or that nobody made -/
def NilR (w : World) (r : Value) : Prop := r = .pointer none ∨ ∃ b, r = ptr b ∧ w.cell? ⟨b, 3, none⟩ = some (.bool false)

theorem NilR.kept {w w' : World} {r : Value} (h : NilR w r) (hb : Below w.heap.size w w') : NilR w' r := by
  rcases h with h | ⟨b, h, hc⟩
  · exact .inl h
  · exact .inr ⟨b, h, by rw [hb.cell (p := ⟨b, 3, none⟩) (World.block_lt_of_cell? w _ hc)]; exact hc⟩

set_option maxRecDepth 100000 in
set_option maxHeartbeats 1000000 in
theorem none_nilr (r : Value) (w : World) (h : NilR w r) :
    Calls Try.prog 45 #[r] w fun e w' => e = .returned (.bool true) ∧ w = w' := by
  rcases h with rfl | ⟨b, rfl, c3⟩
  all_goals
    go_enter Try.func45, Try.ntmps45
    go_wp2
    go_ret
    exact ⟨rfl, rfl⟩

set_option maxRecDepth 100000 in
set_option maxHeartbeats 1000000 in
theorem stopped_nilr (r : Value) (w : World) (h : NilR w r) :
    Calls Try.prog 44 #[r] w fun e w' => e = .returned (.bool true) ∧ w = w' := by
  have H := Lib.hid h
  clear h
  go_enter Try.func44, Try.ntmps44
  go_wp2_with fail
  refine (none_nilr r w H.out).mono ?_
  rintro e w' ⟨rfl, rfl⟩
  go_wp2_with fail
  go_ret
  exact ⟨rfl, rfl⟩

set_option maxRecDepth 100000 in
set_option maxHeartbeats 1000000 in
theorem number_nilr (r : Value) (w : World) (h : NilR w r) :
    Calls Try.prog 46 #[r] w fun e w' => e = .returned (.tuple #[.int .u64 0, .int .i64 0]) ∧ w = w' := by
  have H := Lib.hid h
  clear h
  go_enter Try.func46, Try.ntmps46
  go_wp2_with fail
  refine (stopped_nilr r w H.out).mono ?_
  rintro e w' ⟨rfl, rfl⟩
  go_wp2_with fail
  go_ret2
  exact ⟨rfl, rfl⟩

set_option maxRecDepth 100000 in
set_option maxHeartbeats 1000000 in
theorem uint_nilr (r : Value) (w : World) (h : NilR w r) :
    Calls Try.prog 22 #[r] w fun e w' => e = .returned (.int .u64 0) ∧ w = w' := by
  have H := Lib.hid h
  clear h
  go_enter Try.func22, Try.ntmps22
  go_wp2_with fail
  refine (number_nilr r w H.out).mono ?_
  rintro e w' ⟨rfl, rfl⟩
  go_wp2_with fail
  refine (stopped_nilr r w H.out).mono ?_
  rintro e w' ⟨rfl, rfl⟩
  go_wp2_with fail
  go_ret
  exact ⟨rfl, rfl⟩

set_option maxRecDepth 100000 in
set_option maxHeartbeats 1000000 in
theorem bool_nilr (r : Value) (w : World) (h : NilR w r) :
    Calls Try.prog 20 #[r] w fun e w' => e = .returned (.bool false) ∧ w = w' := by
  have H := Lib.hid h
  clear h
  go_enter Try.func20, Try.ntmps20
  go_wp2_with fail
  refine (stopped_nilr r w H.out).mono ?_
  rintro e w' ⟨rfl, rfl⟩
  go_wp2_with fail
  go_ret
  exact ⟨rfl, rfl⟩

set_option maxRecDepth 100000 in
set_option maxHeartbeats 1000000 in
theorem text_nilr (r : Value) (w : World) (h : NilR w r) :
    Calls Try.prog 30 #[r] w fun e w' => e = .returned (.string ByteArray.empty) ∧ w = w' := by
  have H := Lib.hid h
  clear h
  go_enter Try.func30, Try.ntmps30
  go_wp2_with fail
  refine (number_nilr r w H.out).mono ?_
  rintro e w' ⟨rfl, rfl⟩
  go_wp2_with fail
  refine (stopped_nilr r w H.out).mono ?_
  rintro e w' ⟨rfl, rfl⟩
  go_wp2_with fail
  go_ret
  exact ⟨rfl, rfl⟩

set_option maxRecDepth 100000 in
set_option maxHeartbeats 1000000 in
theorem count_nilr (r : Value) (m : Int) (w : World) (h : NilR w r) :
    Calls Try.prog 37 #[r, .int .i64 m] w fun e w' => e = .returned (.int .i64 0) ∧ w = w' := by
  have H := Lib.hid h
  clear h
  go_enter Try.func37, Try.ntmps37
  go_wp2_with fail
  refine (stopped_nilr r w H.out).mono ?_
  rintro e w' ⟨rfl, rfl⟩
  go_wp2_with fail
  go_ret
  exact ⟨rfl, rfl⟩

set_option maxRecDepth 100000 in
set_option maxHeartbeats 1000000 in
theorem err_nilr (r : Value) (w : World) (h : NilR w r) :
    Calls Try.prog 21 #[r] w fun e w' => e = .returned (.int .i64 1) ∧ w = w' := by
  have H := Lib.hid h
  clear h
  go_enter Try.func21, Try.ntmps21
  go_wp2_with fail
  refine (none_nilr r w H.out).mono ?_
  rintro e w' ⟨rfl, rfl⟩
  go_wp2_with fail
  go_ret
  exact ⟨rfl, rfl⟩

set_option maxRecDepth 100000 in
set_option maxHeartbeats 1000000 in
theorem at_nilr (r : Value) (w : World) (h : NilR w r) :
    Calls Try.prog 23 #[r] w fun e w' => e = .returned (.int .i64 0) ∧ w = w' := by
  have H := Lib.hid h
  clear h
  go_enter Try.func23, Try.ntmps23
  go_wp2_with fail
  refine (none_nilr r w H.out).mono ?_
  rintro e w' ⟨rfl, rfl⟩
  go_wp2_with fail
  go_ret
  exact ⟨rfl, rfl⟩

set_option maxRecDepth 100000 in
set_option maxHeartbeats 1000000 in
theorem fail_nilr (r : Value) (m : Int) (w : World) (h : NilR w r) :
    Calls Try.prog 39 #[r, .int .i64 m] w fun e w' => e = .returned (.tuple #[]) ∧ w = w' := by
  have H := Lib.hid h
  clear h
  go_enter Try.func39, Try.ntmps39
  go_wp2_with fail
  refine (stopped_nilr r w H.out).mono ?_
  rintro e w' ⟨rfl, rfl⟩
  go_wp2_with fail
  go_end0
  exact ⟨rfl, rfl⟩

set_option maxRecDepth 100000 in
set_option maxHeartbeats 1000000 in
theorem int_nilr (r : Value) (w : World) (h : NilR w r) :
    Calls Try.prog 29 #[r] w fun e w' => e = .returned (.int .i64 0) ∧ w = w' := by
  have H := Lib.hid h
  clear h
  go_enter Try.func29, Try.ntmps29
  go_wp2_with fail
  refine (uint_nilr r w H.out).mono ?_
  rintro e w' ⟨rfl, rfl⟩
  go_wp2_with fail
  go_ret
  exact ⟨ret_int (by decide +kernel), rfl⟩

set_option maxRecDepth 100000 in
set_option maxHeartbeats 1000000 in
theorem done_nilr (r : Value) (w : World) (h : NilR w r) :
    Calls Try.prog 31 #[r] w fun e w' => e = .returned (.int .i64 1) ∧ ∃ n, w' = w.drewN n := by
  have H := Lib.hid h
  have HD : ∀ n, NilR (w.drewN n) r := fun n => h.kept (below_drewN n)
  have HD' := Lib.hid HD
  clear h HD
  go_enter Try.func31, Try.ntmps31
  go_wp2_with fail
  go_quiet ((go_at_call 44; exact Calls.quiet_of_same ((stopped_nilr r _ (HD'.out _)).mono fun _ _ ⟨a, b⟩ => ⟨a, b.symm⟩)))
  go_wp2_with fail
  refine (err_nilr r _ (HD'.out _)).mono ?_
  rintro e w' ⟨rfl, rfl⟩
  go_wp2_with fail
  go_ret
  exact ⟨rfl, nq, rfl⟩

theorem opq_eq {P : Program} {f : FuncId} {args : Array Value} {w : World} {v : Value} (h : Calls P f args w fun e w' => e = .returned v ∧ w = w') : Calls P f args w fun e w' => e = .returned v ∧ Below w.heap.size w w' :=
  h.mono fun _ _ ⟨he, hw⟩ => ⟨he, by subst hw; exact Below.refl _ _⟩

/-- a list of two readers of that kind -/
def TwoNil (w : World) (n : Nat) : Prop := ∀ j, j < 2 → ∃ r, w.cell? ⟨n, j, none⟩ = some r ∧ NilR w r

theorem two_nil (w : World) : TwoNil ((w.alloc (.cells #[.slice none 0 0, .int .i64 0, .int .i64 0, .bool false] 55)).alloc (.cells #[.pointer none, .pointer (some ⟨w.heap.size, 0, none⟩)] 35)) (w.heap.size + 1) := by
  have hb : Blk ((w.alloc (.cells #[.slice none 0 0, .int .i64 0, .int .i64 0, .bool false] 55)).alloc (.cells #[.pointer none, .pointer (some ⟨w.heap.size, 0, none⟩)] 35)) (w.heap.size + 1) [.pointer none, .pointer (some ⟨w.heap.size, 0, none⟩)] 35 := by
    have := Blk.made (w.alloc (.cells #[.slice none 0 0, .int .i64 0, .int .i64 0, .bool false] 55)) [.pointer none, .pointer (some ⟨w.heap.size, 0, none⟩)] 35
    simpa using this
  have hr := (Blk.made w [.slice none 0 0, .int .i64 0, .int .i64 0, .bool false] 55).alloc (.cells #[.pointer none, .pointer (some ⟨w.heap.size, 0, none⟩)] 35)
  intro j hj
  match j, hj with
  | 0, _ => exact ⟨_, hb.cell (j := 0) rfl, .inl rfl⟩
  | 1, _ => exact ⟨_, hb.cell (j := 1) rfl, .inr ⟨_, rfl, hr.cell (j := 3) rfl⟩⟩
  | j + 2, hj => omega

theorem TwoNil.kept {w w' : World} {n : Nat} (h : TwoNil w n) (hb : Below w.heap.size w w') : TwoNil w' n := fun j hj => by
  obtain ⟨r, hc, hn⟩ := h j hj
  exact ⟨r, by rw [hb.cell (p := ⟨n, j, none⟩) (World.block_lt_of_cell? w _ hc)]; exact hc, hn.kept hb⟩

theorem cell_kept {w w' : World} {a : Addr} {v : Value} (h : w.cell? a = some v) (hb : Below w.heap.size w w') : w'.cell? a = some v := by
  rw [hb.cell (p := a) (World.block_lt_of_cell? w _ h)]; exact h

set_option maxRecDepth 100000 in
set_option maxHeartbeats 2000000 in
theorem wireNil_walk (k : Int) (w : World) (hk : (Lit.int .i64 k).wf = true) :
    Calls Try.prog 9 #[.int .i64 k] w fun e w' => e = .returned (.bool true) ∧ Below w.heap.size w w' := by
  clear hk
  have HT := Lib.hid (two_nil w)
  have HB := Lib.hid (below_and (below_alloc w (.cells #[.slice none 0 0, .int .i64 0, .int .i64 0, .bool false] 55)) (below_alloc _ (.cells #[.pointer none, .pointer (some ⟨w.heap.size, 0, none⟩)] 35)))
  go_enter Try.func9, Try.ntmps9
  go_wp2_with fail
  generalize w.heap.size + 1 = n1 at *
  go_loopw [4] (fun i wr => ∃ j : Nat, j ≤ 2 ∧ i = .int .i64 (j : Int) ∧ Hid (TwoNil wr n1) ∧ Hid (Below w.heap.size w wr)) (fun i _ => 2 - (intOf i).toNat)
  case atStart => exact ⟨0, by omega, rfl, HT, HB⟩
  case round =>
    obtain ⟨j, hj, rfl, ht, hb⟩ := hrel
    clear HT HB
    by_cases hlt : j < 2
    · obtain ⟨r, e1, hn⟩ := ht.out j hlt
      have HN := Lib.hid hn
      clear hn
      go_wp2_with fail
      refine (opq_eq (fail_nilr r k _ HN.out)).mono ?_
      rintro e w1 ⟨rfl, hb2⟩
      have e2 := cell_kept e1 hb2
      have e1 := e2
      have HN := Lib.hid (HN.out.kept hb2)
      have ht := Lib.hid (ht.out.kept hb2)
      have hb := Lib.hid (below_and hb.out hb2)
      clear hb2 e2
      go_wp2_with fail
      refine (opq_eq (uint_nilr r _ HN.out)).mono ?_
      rintro e w1 ⟨rfl, hb2⟩
      have e2 := cell_kept e1 hb2
      have e1 := e2
      have HN := Lib.hid (HN.out.kept hb2)
      have ht := Lib.hid (ht.out.kept hb2)
      have hb := Lib.hid (below_and hb.out hb2)
      clear hb2 e2
      go_wp2_with fail
      refine (opq_eq (int_nilr r _ HN.out)).mono ?_
      rintro e w1 ⟨rfl, hb2⟩
      have e2 := cell_kept e1 hb2
      have e1 := e2
      have HN := Lib.hid (HN.out.kept hb2)
      have ht := Lib.hid (ht.out.kept hb2)
      have hb := Lib.hid (below_and hb.out hb2)
      clear hb2 e2
      go_wp2_with fail
      refine (opq_eq (bool_nilr r _ HN.out)).mono ?_
      rintro e w1 ⟨rfl, hb2⟩
      have e2 := cell_kept e1 hb2
      have e1 := e2
      have HN := Lib.hid (HN.out.kept hb2)
      have ht := Lib.hid (ht.out.kept hb2)
      have hb := Lib.hid (below_and hb.out hb2)
      clear hb2 e2
      go_wp2_with fail
      refine (opq_eq (text_nilr r _ HN.out)).mono ?_
      rintro e w1 ⟨rfl, hb2⟩
      have e2 := cell_kept e1 hb2
      have e1 := e2
      have HN := Lib.hid (HN.out.kept hb2)
      have ht := Lib.hid (ht.out.kept hb2)
      have hb := Lib.hid (below_and hb.out hb2)
      clear hb2 e2
      go_wp2_with fail
      refine (opq_eq (count_nilr r k _ HN.out)).mono ?_
      rintro e w1 ⟨rfl, hb2⟩
      have e2 := cell_kept e1 hb2
      have e1 := e2
      have HN := Lib.hid (HN.out.kept hb2)
      have ht := Lib.hid (ht.out.kept hb2)
      have hb := Lib.hid (below_and hb.out hb2)
      clear hb2 e2
      go_wp2_with fail
      refine (opq_eq (err_nilr r _ HN.out)).mono ?_
      rintro e w1 ⟨rfl, hb2⟩
      have e2 := cell_kept e1 hb2
      have e1 := e2
      have HN := Lib.hid (HN.out.kept hb2)
      have ht := Lib.hid (ht.out.kept hb2)
      have hb := Lib.hid (below_and hb.out hb2)
      clear hb2 e2
      go_wp2_with fail
      refine (opq_eq (at_nilr r _ HN.out)).mono ?_
      rintro e w1 ⟨rfl, hb2⟩
      have e2 := cell_kept e1 hb2
      have e1 := e2
      have HN := Lib.hid (HN.out.kept hb2)
      have ht := Lib.hid (ht.out.kept hb2)
      have hb := Lib.hid (below_and hb.out hb2)
      clear hb2 e2
      go_wp2_with fail
      refine (opq (done_nilr r _ HN.out)).mono ?_
      rintro e w1 ⟨rfl, hb2⟩
      have e2 := cell_kept e1 hb2
      have e1 := e2
      have HN := Lib.hid (HN.out.kept hb2)
      have ht := Lib.hid (ht.out.kept hb2)
      have hb := Lib.hid (below_and hb.out hb2)
      clear hb2 e2
      go_wp2_with fail
      go_roundw
      case rel => exact ⟨j + 1, by omega, by go_num, ht, hb⟩
      case measure => simp [intOf]; omega
    · go_wp2_with fail
      refine (lives_any _).mono ?_
      rintro e w1 ⟨rfl, hb2⟩
      have HB := Lib.hid (below_and hb.out hb2)
      clear hb2
      go_wp2_with fail
      go_ret
      exact ⟨rfl, HB.out⟩
end Go.Proofs.Ytchaigaechmbnaa
