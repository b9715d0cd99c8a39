/- MsLess. -/
import Derived.Test.YtopkfomlppnpeaaGreatDoorMsCmp
namespace Go.Proofs.YtopkfomlppnpeaaGreatDoor.Ms
open Go.RowKit Go.Proofs.YtopkfomlppnpeaaGreatDoor

set_option maxRecDepth 100000 in
set_option maxHeartbeats 2000000 in
theorem envL_any (x y : El) (w : World) : Calls Tryz.prog 55 #[envV x, envV y] w fun e w' => e = .returned (.bool (envL x y)) ∧ Below w.heap.size w w' := by
  obtain ⟨r, hr⟩ : ∃ r, r = envL x y := ⟨_, rfl⟩
  rw [← hr]
  have l0 : Op.bytesLess (bs x.j).toList (bs y.j).toList = r := by rw [hr]; rfl
  clear hr
  obtain ⟨X, hX⟩ : ∃ X, X = w.heap.size := ⟨_, rfl⟩
  obtain ⟨w2, hw2⟩ : ∃ w2, w2 = (w.alloc (.cells #[.string (bs x.j), .int .i64 x.a.c, .int .i64 x.a.r, .int .i64 x.a.d, .int .i64 x.a.p] 66)).alloc (.cells #[.string (bs y.j), .int .i64 y.a.c, .int .i64 y.a.r, .int .i64 y.a.d, .int .i64 y.a.p] 66) := ⟨_, rfl⟩
  have HX : Hid (Blk w2 X [.string (bs x.j), .int .i64 x.a.c, .int .i64 x.a.r, .int .i64 x.a.d, .int .i64 x.a.p] 66) := Lib.hid (by rw [hw2, hX]; exact (Blk.made w [.string (bs x.j), .int .i64 x.a.c, .int .i64 x.a.r, .int .i64 x.a.d, .int .i64 x.a.p] _).alloc _)
  have HY : Hid (Blk w2 (X + 1) [.string (bs y.j), .int .i64 y.a.c, .int .i64 y.a.r, .int .i64 y.a.d, .int .i64 y.a.p] 66) := Lib.hid (by rw [hw2, hX]; have := Blk.made (w.alloc (.cells #[.string (bs x.j), .int .i64 x.a.c, .int .i64 x.a.r, .int .i64 x.a.d, .int .i64 x.a.p] 66)) [.string (bs y.j), .int .i64 y.a.c, .int .i64 y.a.r, .int .i64 y.a.d, .int .i64 y.a.p] 66; simpa using this)
  have HB : Hid (Below w.heap.size w w2) := Lib.hid (by rw [hw2]; exact below_and (below_alloc _ _) (below_alloc _ _))
  go_enter Tryz.func55, Tryz.ntmps55
  go_upto_region 1 with fail
  have hs1 : (w.alloc (.cells #[.string (bs x.j), .int .i64 x.a.c, .int .i64 x.a.r, .int .i64 x.a.d, .int .i64 x.a.p] 66)).heap.size = X + 1 := by rw [hX]; simp
  rw [← hw2, ← hX]
  clear hw2 hX hs1
  have x0 := HX.out.cell (j := 0) rfl
  have y0 := HY.out.cell (j := 0) rfl
  go_wp2
  go_ret
  exact ⟨rfl, HB.out⟩
set_option maxRecDepth 100000 in
set_option maxHeartbeats 2000000 in
theorem staL_any (x y : El) (w : World) : Calls Tryz.prog 60 #[staV x, staV y] w fun e w' => e = .returned (.bool (ltT x y)) ∧ Below w.heap.size w w' := by
  obtain ⟨X, hX⟩ : ∃ X, X = w.heap.size := ⟨_, rfl⟩
  obtain ⟨w2, hw2⟩ : ∃ w2, w2 = (w.alloc (.cells #[.string (bs x.j), .int .i64 x.i, .int .u64 x.n, .int .i64 x.a.c, .int .i64 x.a.r, .int .i64 x.a.d, .int .i64 x.a.p, .string (bs x.s)] 39)).alloc (.cells #[.string (bs y.j), .int .i64 y.i, .int .u64 y.n, .int .i64 y.a.c, .int .i64 y.a.r, .int .i64 y.a.d, .int .i64 y.a.p, .string (bs y.s)] 39) := ⟨_, rfl⟩
  have HX : Hid (Blk w2 X [.string (bs x.j), .int .i64 x.i, .int .u64 x.n, .int .i64 x.a.c, .int .i64 x.a.r, .int .i64 x.a.d, .int .i64 x.a.p, .string (bs x.s)] 39) := Lib.hid (by rw [hw2, hX]; exact (Blk.made w [.string (bs x.j), .int .i64 x.i, .int .u64 x.n, .int .i64 x.a.c, .int .i64 x.a.r, .int .i64 x.a.d, .int .i64 x.a.p, .string (bs x.s)] _).alloc _)
  have HY : Hid (Blk w2 (X + 1) [.string (bs y.j), .int .i64 y.i, .int .u64 y.n, .int .i64 y.a.c, .int .i64 y.a.r, .int .i64 y.a.d, .int .i64 y.a.p, .string (bs y.s)] 39) := Lib.hid (by rw [hw2, hX]; have := Blk.made (w.alloc (.cells #[.string (bs x.j), .int .i64 x.i, .int .u64 x.n, .int .i64 x.a.c, .int .i64 x.a.r, .int .i64 x.a.d, .int .i64 x.a.p, .string (bs x.s)] 39)) [.string (bs y.j), .int .i64 y.i, .int .u64 y.n, .int .i64 y.a.c, .int .i64 y.a.r, .int .i64 y.a.d, .int .i64 y.a.p, .string (bs y.s)] 39; simpa using this)
  have HB : Hid (Below w.heap.size w w2) := Lib.hid (by rw [hw2]; exact below_and (below_alloc _ _) (below_alloc _ _))
  go_enter Tryz.func60, Tryz.ntmps60
  go_upto_region 1 with fail
  have hs1 : (w.alloc (.cells #[.string (bs x.j), .int .i64 x.i, .int .u64 x.n, .int .i64 x.a.c, .int .i64 x.a.r, .int .i64 x.a.d, .int .i64 x.a.p, .string (bs x.s)] 39)).heap.size = X + 1 := by rw [hX]; simp
  rw [← hw2, ← hX]
  clear hw2 hX hs1
  have x0 := HX.out.cell (j := 0) rfl
  have x1 := HX.out.cell (j := 1) rfl
  have y0 := HY.out.cell (j := 0) rfl
  have y1 := HY.out.cell (j := 1) rfl
  go_wp2_with (go_at_call 61; refine (byTask_any x y _).mono ?_; rintro e w3 ⟨⟨z, rfl, hz⟩, hb⟩; have HZ := Lib.hid hz; have HB3 := Lib.hid (below_and HB.out hb); clear hz hb)
  go_ret
  exact ⟨ret_bool HZ.out, HB3.out⟩
set_option maxRecDepth 100000 in
set_option maxHeartbeats 2000000 in
theorem stoL_any (x y : El) (w : World) : Calls Tryz.prog 65 #[stoV x, stoV y] w fun e w' => e = .returned (.bool (ltT x y)) ∧ Below w.heap.size w w' := by
  obtain ⟨X, hX⟩ : ∃ X, X = w.heap.size := ⟨_, rfl⟩
  obtain ⟨w2, hw2⟩ : ∃ w2, w2 = (w.alloc (.cells #[.string (bs x.j), .int .i64 x.i, .int .u64 x.n] 75)).alloc (.cells #[.string (bs y.j), .int .i64 y.i, .int .u64 y.n] 75) := ⟨_, rfl⟩
  have HX : Hid (Blk w2 X [.string (bs x.j), .int .i64 x.i, .int .u64 x.n] 75) := Lib.hid (by rw [hw2, hX]; exact (Blk.made w [.string (bs x.j), .int .i64 x.i, .int .u64 x.n] _).alloc _)
  have HY : Hid (Blk w2 (X + 1) [.string (bs y.j), .int .i64 y.i, .int .u64 y.n] 75) := Lib.hid (by rw [hw2, hX]; have := Blk.made (w.alloc (.cells #[.string (bs x.j), .int .i64 x.i, .int .u64 x.n] 75)) [.string (bs y.j), .int .i64 y.i, .int .u64 y.n] 75; simpa using this)
  have HB : Hid (Below w.heap.size w w2) := Lib.hid (by rw [hw2]; exact below_and (below_alloc _ _) (below_alloc _ _))
  go_enter Tryz.func65, Tryz.ntmps65
  go_upto_region 1 with fail
  have hs1 : (w.alloc (.cells #[.string (bs x.j), .int .i64 x.i, .int .u64 x.n] 75)).heap.size = X + 1 := by rw [hX]; simp
  rw [← hw2, ← hX]
  clear hw2 hX hs1
  have x0 := HX.out.cell (j := 0) rfl
  have x1 := HX.out.cell (j := 1) rfl
  have y0 := HY.out.cell (j := 0) rfl
  have y1 := HY.out.cell (j := 1) rfl
  go_wp2_with (go_at_call 61; refine (byTask_any x y _).mono ?_; rintro e w3 ⟨⟨z, rfl, hz⟩, hb⟩; have HZ := Lib.hid hz; have HB3 := Lib.hid (below_and HB.out hb); clear hz hb)
  go_ret
  exact ⟨ret_bool HZ.out, HB3.out⟩
set_option maxRecDepth 100000 in
set_option maxHeartbeats 2000000 in
theorem helL_any (x y : El) (w : World) : Calls Tryz.prog 72 #[helV x, helV y] w fun e w' => e = .returned (.bool (ltT x y)) ∧ Below w.heap.size w w' := by
  obtain ⟨X, hX⟩ : ∃ X, X = w.heap.size := ⟨_, rfl⟩
  obtain ⟨w2, hw2⟩ : ∃ w2, w2 = (w.alloc (.cells #[.string (bs x.j), .int .i64 x.i, .int .u64 x.n, .int .i64 x.q] 88)).alloc (.cells #[.string (bs y.j), .int .i64 y.i, .int .u64 y.n, .int .i64 y.q] 88) := ⟨_, rfl⟩
  have HX : Hid (Blk w2 X [.string (bs x.j), .int .i64 x.i, .int .u64 x.n, .int .i64 x.q] 88) := Lib.hid (by rw [hw2, hX]; exact (Blk.made w [.string (bs x.j), .int .i64 x.i, .int .u64 x.n, .int .i64 x.q] _).alloc _)
  have HY : Hid (Blk w2 (X + 1) [.string (bs y.j), .int .i64 y.i, .int .u64 y.n, .int .i64 y.q] 88) := Lib.hid (by rw [hw2, hX]; have := Blk.made (w.alloc (.cells #[.string (bs x.j), .int .i64 x.i, .int .u64 x.n, .int .i64 x.q] 88)) [.string (bs y.j), .int .i64 y.i, .int .u64 y.n, .int .i64 y.q] 88; simpa using this)
  have HB : Hid (Below w.heap.size w w2) := Lib.hid (by rw [hw2]; exact below_and (below_alloc _ _) (below_alloc _ _))
  go_enter Tryz.func72, Tryz.ntmps72
  go_upto_region 1 with fail
  have hs1 : (w.alloc (.cells #[.string (bs x.j), .int .i64 x.i, .int .u64 x.n, .int .i64 x.q] 88)).heap.size = X + 1 := by rw [hX]; simp
  rw [← hw2, ← hX]
  clear hw2 hX hs1
  have x0 := HX.out.cell (j := 0) rfl
  have x1 := HX.out.cell (j := 1) rfl
  have y0 := HY.out.cell (j := 0) rfl
  have y1 := HY.out.cell (j := 1) rfl
  go_wp2_with (go_at_call 61; refine (byTask_any x y _).mono ?_; rintro e w3 ⟨⟨z, rfl, hz⟩, hb⟩; have HZ := Lib.hid hz; have HB3 := Lib.hid (below_and HB.out hb); clear hz hb)
  go_ret
  exact ⟨ret_bool HZ.out, HB3.out⟩
set_option maxRecDepth 100000 in
set_option maxHeartbeats 2000000 in
theorem finL_any (x y : El) (w : World) : Calls Tryz.prog 75 #[finV x, finV y] w fun e w' => e = .returned (.bool (finL x y)) ∧ Below w.heap.size w w' := by
  obtain ⟨X, hX⟩ : ∃ X, X = w.heap.size := ⟨_, rfl⟩
  obtain ⟨w2, hw2⟩ : ∃ w2, w2 = (w.alloc (.cells #[.int .u64 x.k, .string (bs x.j), .int .i64 x.i, .int .u64 x.n, .int .i64 x.q] 95)).alloc (.cells #[.int .u64 y.k, .string (bs y.j), .int .i64 y.i, .int .u64 y.n, .int .i64 y.q] 95) := ⟨_, rfl⟩
  have HX : Hid (Blk w2 X [.int .u64 x.k, .string (bs x.j), .int .i64 x.i, .int .u64 x.n, .int .i64 x.q] 95) := Lib.hid (by rw [hw2, hX]; exact (Blk.made w [.int .u64 x.k, .string (bs x.j), .int .i64 x.i, .int .u64 x.n, .int .i64 x.q] _).alloc _)
  have HY : Hid (Blk w2 (X + 1) [.int .u64 y.k, .string (bs y.j), .int .i64 y.i, .int .u64 y.n, .int .i64 y.q] 95) := Lib.hid (by rw [hw2, hX]; have := Blk.made (w.alloc (.cells #[.int .u64 x.k, .string (bs x.j), .int .i64 x.i, .int .u64 x.n, .int .i64 x.q] 95)) [.int .u64 y.k, .string (bs y.j), .int .i64 y.i, .int .u64 y.n, .int .i64 y.q] 95; simpa using this)
  have HB : Hid (Below w.heap.size w w2) := Lib.hid (by rw [hw2]; exact below_and (below_alloc _ _) (below_alloc _ _))
  go_enter Tryz.func75, Tryz.ntmps75
  go_upto_region 1 with fail
  have hs1 : (w.alloc (.cells #[.int .u64 x.k, .string (bs x.j), .int .i64 x.i, .int .u64 x.n, .int .i64 x.q] 95)).heap.size = X + 1 := by rw [hX]; simp
  rw [← hw2, ← hX]
  clear hw2 hX hs1
  have x0 := HX.out.cell (j := 0) rfl
  have y0 := HY.out.cell (j := 0) rfl
  go_wp2
  go_ret
  exact ⟨rfl, HB.out⟩
set_option maxRecDepth 100000 in
set_option maxHeartbeats 2000000 in
theorem refL_any (x y : El) (w : World) : Calls Tryz.prog 78 #[refV x, refV y] w fun e w' => e = .returned (.bool (ltT x y)) ∧ Below w.heap.size w w' := by
  obtain ⟨X, hX⟩ : ∃ X, X = w.heap.size := ⟨_, rfl⟩
  obtain ⟨w2, hw2⟩ : ∃ w2, w2 = (w.alloc (.cells #[.string (bs x.j), .int .i64 x.i, .int .u64 x.n, .int .i64 x.q] 99)).alloc (.cells #[.string (bs y.j), .int .i64 y.i, .int .u64 y.n, .int .i64 y.q] 99) := ⟨_, rfl⟩
  have HX : Hid (Blk w2 X [.string (bs x.j), .int .i64 x.i, .int .u64 x.n, .int .i64 x.q] 99) := Lib.hid (by rw [hw2, hX]; exact (Blk.made w [.string (bs x.j), .int .i64 x.i, .int .u64 x.n, .int .i64 x.q] _).alloc _)
  have HY : Hid (Blk w2 (X + 1) [.string (bs y.j), .int .i64 y.i, .int .u64 y.n, .int .i64 y.q] 99) := Lib.hid (by rw [hw2, hX]; have := Blk.made (w.alloc (.cells #[.string (bs x.j), .int .i64 x.i, .int .u64 x.n, .int .i64 x.q] 99)) [.string (bs y.j), .int .i64 y.i, .int .u64 y.n, .int .i64 y.q] 99; simpa using this)
  have HB : Hid (Below w.heap.size w w2) := Lib.hid (by rw [hw2]; exact below_and (below_alloc _ _) (below_alloc _ _))
  go_enter Tryz.func78, Tryz.ntmps78
  go_upto_region 1 with fail
  have hs1 : (w.alloc (.cells #[.string (bs x.j), .int .i64 x.i, .int .u64 x.n, .int .i64 x.q] 99)).heap.size = X + 1 := by rw [hX]; simp
  rw [← hw2, ← hX]
  clear hw2 hX hs1
  have x0 := HX.out.cell (j := 0) rfl
  have x1 := HX.out.cell (j := 1) rfl
  have y0 := HY.out.cell (j := 0) rfl
  have y1 := HY.out.cell (j := 1) rfl
  go_wp2_with (go_at_call 61; refine (byTask_any x y _).mono ?_; rintro e w3 ⟨⟨z, rfl, hz⟩, hb⟩; have HZ := Lib.hid hz; have HB3 := Lib.hid (below_and HB.out hb); clear hz hb)
  go_ret
  exact ⟨ret_bool HZ.out, HB3.out⟩
end Go.Proofs.YtopkfomlppnpeaaGreatDoor.Ms
