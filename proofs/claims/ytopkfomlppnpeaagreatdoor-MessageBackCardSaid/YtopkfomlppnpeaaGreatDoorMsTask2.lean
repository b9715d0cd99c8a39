/- MsTask2. -/
import Derived.Test.YtopkfomlppnpeaaGreatDoorMsTask
import Derived.Test.YtopkfomlppnpeaaGreatDoorFrp
import Derived.Test.YtopkfomlppnpeaaGreatDoorAmt
namespace Go.Proofs.YtopkfomlppnpeaaGreatDoor.Ms
open Go.RowKit Go.Proofs.YtopkfomlppnpeaaGreatDoor

theorem ret_cell {P : Program} {fn : Func} {R : Ending → World → Prop} {a : Act} {w : World} {p u : Tmp} {ty t : TypeId} {g : Nat} {cs : List Value} {d : TypeDesc} (h : fn.results = #[.cell p ty, .tmp u]) (hd : a.defers = [])
    (hp : a.tmps.getD p undef = .pointer (some ⟨g, 0, none⟩)) (hg : Blk w g cs t) (hu : P.underlying ty = some d) (hd2 : (match d with | .struct _ | .array _ _ => true | _ => false) = true) (hi : (P.info? ty).map (·.size) = some cs.length) (hR : R (.returned (.tuple #[.agg cs.toArray, a.tmps.getD u undef])) w) : bodyPost P fn R .ret a w := by
  refine bodyPost_ret (results_row_tmp h _ w g t cs.toArray (0, 0) d hp hg hu hd2 (by rw [hi]; simp)) hd hR
theorem at_hide {F Q : World → Prop} {w : World} (h : F w) (k : ∀ w', F w' → Q w') : Q w := k w h
theorem beq_bs (a b : List UInt8) : ((bs a).toList == (bs b).toList) = (a == b) := by rw [Lib.toList_data, Lib.toList_data, bs_data, bs_data]
theorem bne_bs (a b : List UInt8) : ((bs a).toList != (bs b).toList) = !(a == b) := by unfold bne; rw [beq_bs]
set_option maxRecDepth 100000 in
set_option maxHeartbeats 2000000 in
theorem ptask_any (l : List UInt8) (w : World) (hl : l.length ≤ 140737488351232) (hE : ErrV w) :
    Calls Tryz.prog 117 #[.string (bs l)] w fun e w' => (∃ a n, e = .returned (.tuple #[.agg #[.string (bs a), .int .i64 n], .int .i64 (if tnB l then 0 else 5)])) ∧ Below w.heap.size w w' := by
  obtain ⟨r, hr⟩ : ∃ r : Int, r = if tnB l then 0 else 5 := ⟨_, rfl⟩
  rw [← hr]
  have HRR := Lib.hid hr
  clear hr
  obtain ⟨R, hR⟩ : ∃ R, R = w.heap.size := ⟨_, rfl⟩
  obtain ⟨w1, hw1⟩ : ∃ w1, w1 = w.alloc (.cells #[.string ⟨#[]⟩, .int .i64 0] 35) := ⟨_, rfl⟩
  have HB1 : Hid (Below w.heap.size w w1) := Lib.hid (by rw [hw1]; exact below_alloc _ _)
  have HX1 : Hid (Blk w1 R [.string ⟨#[]⟩, .int .i64 0] 35) := Lib.hid (by rw [hw1, hR]; exact Blk.made w [_, _] _)
  have HRW : Hid (w.heap.size ≤ R) := Lib.hid (by omega)
  obtain ⟨hj, hx⟩ := cutL_len l
  have HE := Lib.hid hE
  have HJ : Hid ((cutL l).1.length ≤ 1000000000000000) := Lib.hid (by omega)
  have HX : Hid ((cutL l).2.length ≤ 140737488351232) := Lib.hid (by omega)
  have HTN : Hid (∀ n, Lib.atoiAll (cutL l).2 = .ok n → tnB l = (taskO (cutL l).1 n == some l)) := Lib.hid (fun n h => by unfold tnB; rw [h])
  have HTB : Hid ((∀ n, Lib.atoiAll (cutL l).2 ≠ .ok n) → tnB l = false) := Lib.hid (fun h => by unfold tnB; split; exact absurd (by assumption) (h _); rfl)
  have HCU := Lib.hid (fun w' => cut_any l w' hl)
  obtain ⟨j, hjj⟩ : ∃ j, j = (cutL l).1 := ⟨_, rfl⟩
  obtain ⟨x, hxx⟩ : ∃ x, x = (cutL l).2 := ⟨_, rfl⟩
  rw [← hjj] at HCU HTN HJ
  rw [← hxx] at HCU HTN HTB HX
  clear hj hx hE hl hjj hxx
  go_enter Tryz.func117, Tryz.ntmps117
  go_upto_region 1 with fail
  rw [← hw1, ← hR]
  clear hw1 hR
  go_upto_region 3 with (first | (go_at_call 144; refine (HCU.out _).mono ?_; rintro e w2 ⟨⟨cb, rfl⟩, hb⟩; have HX2 := Lib.hid (HX1.out.kept hb); have HB2 := Lib.hid (below_and HB1.out hb); clear hb) | (go_at_call 145; refine (atoi_any x _ HX.out (HE.out.below HB2.out)).mono ?_; rintro e w3 ⟨⟨n, v, rfl, hv⟩, hb⟩; have HX3 := Lib.hid (HX2.out.kept hb); have HB3 := Lib.hid (below_and HB2.out hb); have HV := Lib.hid hv; clear hb hv))
  obtain ⟨K, hK⟩ : ∃ K, K = w3.heap.size := ⟨_, rfl⟩
  obtain ⟨w4, hw4⟩ : ∃ w4, w4 = w3.alloc (.cells #[.string (bs j), .int .i64 n] 35) := ⟨_, rfl⟩
  rcases HV.out with ⟨hok, rfl⟩ | ⟨hno, t, p, rfl⟩
  · have HTQ := Lib.hid (HTN.out n hok)
    clear hok HV HTN HTB
    go_upto_region 4 with fail
    have HK4 : Hid (Blk w4 K [.string (bs j), .int .i64 n] 35) := Lib.hid (by rw [hw4, hK]; exact Blk.made w3 [_, _] _)
    have HX4 : Hid (Blk w4 R [.string ⟨#[]⟩, .int .i64 0] 35) := Lib.hid (by rw [hw4]; exact HX3.out.alloc _)
    have HB4 : Hid (Below w.heap.size w w4) := Lib.hid (by rw [hw4]; exact below_and HB3.out (below_alloc _ _))
    rw [← hw4, ← hK]
    clear hw4 hK
    have k0 := HK4.out.cell (j := 0) rfl
    have k1 := HK4.out.cell (j := 1) rfl
    have HTA := Lib.hid (fun w' => task_any j n w' HJ.out)
    obtain ⟨bk, hbk⟩ : ∃ bk, bk = (taskO j n).getD [] := ⟨_, rfl⟩
    obtain ⟨er, her⟩ : ∃ er, er = taskE j n := ⟨_, rfl⟩
    rw [← hbk, ← her] at HTA
    have HBK := Lib.hid hbk
    have HER := Lib.hid her
    clear hbk her
    go_upto_region 5 with (go_at_call 122; refine (HTA.out _).mono ?_; rintro e w5 ⟨rfl, hb⟩; have HX5 := Lib.hid (HX4.out.kept hb); have HK5 := Lib.hid (HK4.out.kept hb); have HB5 := Lib.hid (below_and HB4.out hb); clear hb)
    clear k0 k1
    have f0 := HX5.out.free 0
    have f1 := HX5.out.free 1
    have y0 := HX5.out.cell (j := 0) rfl
    have y1 := HX5.out.cell (j := 1) rfl
    have z0 := HK5.out.cell (j := 0) rfl
    have z1 := HK5.out.cell (j := 1) rfl
    cases hto : taskO j n with
    | none =>
      have HQQ : Hid (tnB l = false) := Lib.hid (by rw [HTQ.out, hto]; rfl)
      have t0 : (er != 0) = true := by rw [HER.out]; unfold taskE; rw [hto]; rfl
      clear hto
      go_wp2
      refine ret_cell rfl rfl rfl ((HX5.out.set 0 _).set 1 _) Tryz.underlying35 rfl (by kernel_rfl) ?_
      refine ⟨⟨[], 0, by rw [show r = 5 from by rw [HRR.out, HQQ.out]; rfl]; rfl⟩, (HB5.out.setCell (p := ⟨R, 0, none⟩) HRW.out _).setCell (p := ⟨R, 1, none⟩) HRW.out _⟩
    | some s =>
      obtain rfl : bk = s := by rw [HBK.out, hto]; rfl
      have t0 : (er != 0) = false := by rw [HER.out]; unfold taskE; rw [hto]; rfl
      have HTT : Hid (tnB l = (bk == l)) := Lib.hid (by rw [HTQ.out, hto]; rfl)
      have t1 := beq_bs bk l
      have t2 := bne_bs bk l
      clear hto
      cases hq : (bk == l)
      · rw [hq] at t1 t2 HTT
        clear hq
        have HQQ := HTT
        go_wp2
        refine ret_cell rfl rfl rfl ((HX5.out.set 0 _).set 1 _) Tryz.underlying35 rfl (by kernel_rfl) ?_
        refine ⟨⟨[], 0, by rw [show r = 5 from by rw [HRR.out, HQQ.out]; rfl]; rfl⟩, (HB5.out.setCell (p := ⟨R, 0, none⟩) HRW.out _).setCell (p := ⟨R, 1, none⟩) HRW.out _⟩
      · rw [hq] at t1 t2 HTT
        clear hq
        have HQQ := HTT
        go_wp2
        refine ret_cell rfl rfl rfl ((HX5.out.set 0 _).set 1 _) Tryz.underlying35 rfl (by kernel_rfl) ?_
        refine ⟨⟨j, n, by rw [show r = 0 from by rw [HRR.out, HQQ.out]; rfl]; rfl⟩, (HB5.out.setCell (p := ⟨R, 0, none⟩) HRW.out _).setCell (p := ⟨R, 1, none⟩) HRW.out _⟩
  · have HQQ : Hid (tnB l = false) := Lib.hid (HTB.out hno)
    clear hno HV HTN HTB
    go_upto_region 4 with fail
    have HK4 : Hid (Blk w4 K [.string (bs j), .int .i64 n] 35) := Lib.hid (by rw [hw4, hK]; exact Blk.made w3 [_, _] _)
    have HX4 : Hid (Blk w4 R [.string ⟨#[]⟩, .int .i64 0] 35) := Lib.hid (by rw [hw4]; exact HX3.out.alloc _)
    have HB4 : Hid (Below w.heap.size w w4) := Lib.hid (by rw [hw4]; exact below_and HB3.out (below_alloc _ _))
    rw [← hw4, ← hK]
    clear hw4 hK
    have k0 := HK4.out.cell (j := 0) rfl
    have k1 := HK4.out.cell (j := 1) rfl
    go_upto_region 5 with (go_at_call 122; refine (task_any j n _ HJ.out).mono ?_; rintro e w5 ⟨rfl, hb⟩; have HX5 := Lib.hid (HX4.out.kept hb); have HB5 := Lib.hid (below_and HB4.out hb); clear hb)
    clear k0 k1
    have f0 := HX5.out.free 0
    have f1 := HX5.out.free 1
    have y0 := HX5.out.cell (j := 0) rfl
    have y1 := HX5.out.cell (j := 1) rfl
    go_wp2
    refine ret_cell rfl rfl rfl ((HX5.out.set 0 _).set 1 _) Tryz.underlying35 rfl (by kernel_rfl) ?_
    refine ⟨⟨[], 0, by rw [show r = 5 from by rw [HRR.out, HQQ.out]; rfl]; rfl⟩, (HB5.out.setCell (p := ⟨R, 0, none⟩) HRW.out _).setCell (p := ⟨R, 1, none⟩) HRW.out _⟩
def tkB (j : List UInt8) (i : Int) : Bool := (taskO j i).isSome
set_option maxRecDepth 100000 in
set_option maxHeartbeats 1000000 in
theorem isTask_any (j : List UInt8) (i : Int) (w : World) (hj : j.length ≤ 140737488351232) : Calls Tryz.prog 63 #[.agg #[.string (bs j), .int .i64 i]] w fun e w' => e = .returned (.bool (tkB j i)) ∧ Below w.heap.size w w' := by
  obtain ⟨er, her⟩ : ∃ er, er = taskE j i := ⟨_, rfl⟩
  have HTA := Lib.hid (fun w' => task_any j i w' (by omega))
  have HQ : Hid ((er == 0) = tkB j i) := Lib.hid (by rw [her]; unfold taskE tkB; cases (taskO j i).isSome <;> rfl)
  rw [← her] at HTA
  clear her
  have x0 := (Blk.made w [.string (bs j), .int .i64 i] 35).cell (j := 0) rfl
  have x1 := (Blk.made w [.string (bs j), .int .i64 i] 35).cell (j := 1) rfl
  go_enter Tryz.func63, Tryz.ntmps63
  go_wp2_with (go_at_call 122; refine (HTA.out _).mono ?_; rintro e w5 ⟨rfl, hb⟩; have HB5 := Lib.hid (below_and (below_alloc w (.cells #[.string (bs j), .int .i64 i] 35)) hb); clear hb)
  go_ret
  exact ⟨ret_bool HQ.out, HB5.out⟩
set_option maxRecDepth 100000 in
set_option maxHeartbeats 1000000 in
theorem isName_any (l : List UInt8) (w : World) (hl : l.length ≤ 140737488351232) (hE : ErrV w) : Calls Tryz.prog 57 #[.string (bs l)] w fun e w' => e = .returned (.bool (tnB l)) ∧ Below w.heap.size w w' := by
  obtain ⟨er, her⟩ : ∃ er : Int, er = if tnB l then 0 else 5 := ⟨_, rfl⟩
  have HTA := Lib.hid (ptask_any l w hl hE)
  have HQ : Hid ((er == 0) = tnB l) := Lib.hid (by rw [her]; cases tnB l <;> rfl)
  rw [← her] at HTA
  clear her
  go_enter Tryz.func57, Tryz.ntmps57
  go_wp2_with (go_at_call 117; refine HTA.out.mono ?_; rintro e w5 ⟨⟨a, n, rfl⟩, hb⟩; have HB5 := Lib.hid hb; clear hb)
  go_ret
  exact ⟨ret_bool HQ.out, below_and HB5.out (below_alloc _ _)⟩
end Go.Proofs.YtopkfomlppnpeaaGreatDoor.Ms
