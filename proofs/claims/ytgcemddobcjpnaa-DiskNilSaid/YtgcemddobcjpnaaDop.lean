/- Every call of a disk over Od and Tw (written by gendop.py). -/
import Derived.Test.YtgcemddobcjpnaaDtw
namespace Go.Proofs.Ytgcemddobcjpnaa
open Go.RowKit

structure Good (D : Dk) (M : Nat) (N : Int) : Prop where
  i : DkI D M N
  m : M ≤ 100000
  n : N + 2000 < 4611686018427387904
theorem Od.watch {X : Nat → Prop} {wx w0 wa w : World} {b : Nat} {D : Dk} (h : Od X wx w0 wa b D) (hb : Below wa.heap.size wa w) (Y : Nat → Prop) (hx : ∀ k, Y k → k < w.heap.size) (hy : ∀ k, Y k → X k ∨ wa.heap.size ≤ k) : Od Y w w0 w b D := by
  obtain ⟨mb, L, h1, h3⟩ := h.d
  refine ⟨⟨mb, L, h1.kept hb, fun k hk => ⟨(h3 k hk).1, fun hk2 => ?_⟩⟩, hx, Frp.refl _ _, below_and h.bel hb⟩
  rcases hy k hk2 with h6 | h6
  · exact (h3 k hk).2 h6
  · have := h1.lt hk; omega
theorem Od.back {X Y : Nat → Prop} {wx w0 w wy : World} {b : Nat} {D : Dk} (h : Od Y wy w0 w b D) (hy : ∀ k, X k → Y k) (hf : Frp (fun k => ¬ X k) wx wy) : Od X wx w0 w b D := by
  obtain ⟨mb, L, h1, h3⟩ := h.d
  exact ⟨⟨mb, L, h1, fun k hk => ⟨(h3 k hk).1, fun hx => (h3 k hk).2 (hy k hx)⟩⟩, fun k hk => h.xl k (hy k hk), hf.then (h.fx.mono (fun k hk hx => hk (hy k hx))), h.bel⟩
section
variable {X : Nat → Prop} {wx w0 w : World} {b g : Nat} {D E : Dk} {M : Nat} {N : Int}
theorem crash_all (b mb : Nat) (D : Dk) (L : List Pf) (M : Nat) (N : Int) (keep : List Int) (v : Value) (w : World) (h : PDk w b mb D L) (hi : DkI D M N) (hM : M ≤ 100000) (hk : Row w v 1 keep.length (keep.map (Value.int .i64))) (hap : keep ≠ [] → ∀ g, fpP b mb L g → v.ownBlock ≠ some g) (hwf : ∀ x ∈ keep, x ≤ 9223372036854775807) :
    Calls Try.prog 13 #[ptr b, v] w fun e w' => e = .returned (.int .i64 (D.crash keep).1) ∧ DkTo w w' b mb L (D.crash keep).2 := by
  cases hb : Dk.fine keep
  · have e : D.crash keep = (2, D) := by unfold Dk.crash; rw [if_neg (by rw [hb]; simp)]
    rw [e]
    exact (crash_bad b mb D L keep v w h hk hb).mono fun e w' ⟨h1, h2⟩ => ⟨h1, by rw [← h2]; exact DkTo.same h (Below.refl _ _)⟩
  · have e : (D.crash keep).1 = 0 := by unfold Dk.crash; rw [if_pos hb]
    rw [e]
    exact crash_ok b mb D L M N keep v w h hi hM hk hap hb hwf
theorem rcrash_all (g : Nat) (vF : Value) (D : Dk) (L : List Rf) (M : Nat) (N : Int) (keep : List Int) (v : Value) (w : World) (h : RDk w g vF D L) (hi : DkI D M N) (hM : M ≤ 100000) (hk : Row w v 1 keep.length (keep.map (Value.int .i64))) (hap : keep ≠ [] → ∀ y, fpR g vF L y → v.ownBlock ≠ some y) (hwf : ∀ x ∈ keep, x ≤ 9223372036854775807) :
    Calls Try.prog 53 #[ptr g, v] w fun e w' => e = .returned (.int .i64 (D.crash keep).1) ∧ RdTo w w' g vF L (D.crash keep).2 := by
  cases hb : Dk.fine keep
  · have e : D.crash keep = (2, D) := by unfold Dk.crash; rw [if_neg (by rw [hb]; simp)]
    rw [e]
    exact (rcrash_bad g vF D L keep v w h hk hb).mono fun e w' ⟨h1, h2⟩ => ⟨h1, by rw [← h2]; exact RdTo.same h (Below.refl _ _)⟩
  · have e : (D.crash keep).1 = 0 := by unfold Dk.crash; rw [if_pos hb]
    rw [e]
    exact rcrash_ok g vF D L M N keep v w h hi hM hk hap hb hwf
theorem od_make (ho : Od X wx w0 w b D) (gd : Good D M N) (s : ByteArray) (hs : s.size ≤ maxLen) : Calls Try.prog 10 #[ptr b, .string s] w fun e w' => e = .returned (.int .i64 (D.make s).1) ∧ Od X wx w0 w' b (D.make s).2 := ho.run (fun mb L h hf => make_any b mb D L M N s w h gd.i gd.m (by have := gd.n; omega) hs)
theorem td_make (ho : Tw X wx w0 w b g D E) (gd : Good D M N) (s : ByteArray) (hs : s.size ≤ maxLen) : Calls Try.prog 10 #[ptr b, .string s] w fun e w' => e = .returned (.int .i64 (D.make s).1) ∧ Tw X wx w0 w' b g (D.make s).2 E := ho.run1 (fun mb L h hf => make_any b mb D L M N s w h gd.i gd.m (by have := gd.n; omega) hs)
theorem tr_make (ho : Tw X wx w0 w b g D E) (gd : Good E M N) (s : ByteArray) (hs : s.size ≤ maxLen) : Calls Try.prog 46 #[ptr g, .string s] w fun e w' => e = .returned (.int .i64 (E.make s).1) ∧ Tw X wx w0 w' b g D (E.make s).2 := ho.run2 (fun vF L h hf => rmake_any g vF E L M N s w h gd.i gd.m (by have := gd.n; omega) hs)
theorem od_append (ho : Od X wx w0 w b D) (gd : Good D M N) (s : ByteArray) (hs : s.size ≤ maxLen) (v : Value) (l : List UInt8) (hrd : Rd w v l) (hl : l.length ≤ 2000) (hap : l ≠ [] → ∀ k, v.ownBlock = some k → X k ∨ k < w0.heap.size) : Calls Try.prog 11 #[ptr b, .string s, v] w fun e w' => e = .returned (.int .i64 (D.append s l).1) ∧ Od X wx w0 w' b (D.append s l).2 := ho.run (fun mb L h hf => append_any b mb D L M N s v l w h gd.i (by have := gd.n; omega) hs hrd (fun hne k hk e => (hap hne k e).elim (hf k hk).2 (fun h2 => absurd (hf k hk).1 (by omega))))
theorem td_append (ho : Tw X wx w0 w b g D E) (gd : Good D M N) (s : ByteArray) (hs : s.size ≤ maxLen) (v : Value) (l : List UInt8) (hrd : Rd w v l) (hl : l.length ≤ 2000) (hap : l ≠ [] → ∀ k, v.ownBlock = some k → X k ∨ k < w0.heap.size) : Calls Try.prog 11 #[ptr b, .string s, v] w fun e w' => e = .returned (.int .i64 (D.append s l).1) ∧ Tw X wx w0 w' b g (D.append s l).2 E := ho.run1 (fun mb L h hf => append_any b mb D L M N s v l w h gd.i (by have := gd.n; omega) hs hrd (fun hne k hk e => (hap hne k e).elim (hf k hk).2 (fun h2 => absurd (hf k hk).1 (by omega))))
theorem tr_append (ho : Tw X wx w0 w b g D E) (gd : Good E M N) (s : ByteArray) (hs : s.size ≤ maxLen) (v : Value) (l : List UInt8) (hrd : Rd w v l) (hl : l.length ≤ 2000) (hap : l ≠ [] → ∀ k, v.ownBlock = some k → X k ∨ k < w0.heap.size) : Calls Try.prog 47 #[ptr g, .string s, v] w fun e w' => e = .returned (.int .i64 (E.append s l).1) ∧ Tw X wx w0 w' b g D (E.append s l).2 := ho.run2 (fun vF L h hf => rappend_any g vF E L M N s v l w h gd.i gd.m (by have := gd.n; omega) hs hrd (fun hne k hk e => (hap hne k e).elim (hf k hk).2 (fun h2 => absurd (hf k hk).1 (by omega))))
theorem od_sync (ho : Od X wx w0 w b D) (gd : Good D M N) (s : ByteArray) (hs : s.size ≤ maxLen) : Calls Try.prog 12 #[ptr b, .string s] w fun e w' => e = .returned (.int .i64 (D.sync s).1) ∧ Od X wx w0 w' b (D.sync s).2 := ho.run (fun mb L h hf => sync_any b mb D L M N s w h gd.i (by have := gd.n; omega) hs)
theorem td_sync (ho : Tw X wx w0 w b g D E) (gd : Good D M N) (s : ByteArray) (hs : s.size ≤ maxLen) : Calls Try.prog 12 #[ptr b, .string s] w fun e w' => e = .returned (.int .i64 (D.sync s).1) ∧ Tw X wx w0 w' b g (D.sync s).2 E := ho.run1 (fun mb L h hf => sync_any b mb D L M N s w h gd.i (by have := gd.n; omega) hs)
theorem tr_sync (ho : Tw X wx w0 w b g D E) (gd : Good E M N) (s : ByteArray) (hs : s.size ≤ maxLen) : Calls Try.prog 48 #[ptr g, .string s] w fun e w' => e = .returned (.int .i64 (E.sync s).1) ∧ Tw X wx w0 w' b g D (E.sync s).2 := ho.run2 (fun vF L h hf => rsync_any g vF E L M N s w h gd.i gd.m (by have := gd.n; omega) hs)
theorem od_remove (ho : Od X wx w0 w b D) (gd : Good D M N) (s : ByteArray) (hs : s.size ≤ maxLen) : Calls Try.prog 26 #[ptr b, .string s] w fun e w' => e = .returned (.int .i64 (D.remove s).1) ∧ Od X wx w0 w' b (D.remove s).2 := ho.run (fun mb L h hf => remove_any b mb D L M N s w h gd.i (by have := gd.n; omega) hs)
theorem td_remove (ho : Tw X wx w0 w b g D E) (gd : Good D M N) (s : ByteArray) (hs : s.size ≤ maxLen) : Calls Try.prog 26 #[ptr b, .string s] w fun e w' => e = .returned (.int .i64 (D.remove s).1) ∧ Tw X wx w0 w' b g (D.remove s).2 E := ho.run1 (fun mb L h hf => remove_any b mb D L M N s w h gd.i (by have := gd.n; omega) hs)
theorem tr_remove (ho : Tw X wx w0 w b g D E) (gd : Good E M N) (s : ByteArray) (hs : s.size ≤ maxLen) : Calls Try.prog 50 #[ptr g, .string s] w fun e w' => e = .returned (.int .i64 (E.remove s).1) ∧ Tw X wx w0 w' b g D (E.remove s).2 := ho.run2 (fun vF L h hf => rremove_any g vF E L M N s w h gd.i gd.m (by have := gd.n; omega) hs)
theorem od_rename (ho : Od X wx w0 w b D) (gd : Good D M N) (s : ByteArray) (hs : s.size ≤ maxLen) (t : ByteArray) (ht : t.size ≤ maxLen) : Calls Try.prog 19 #[ptr b, .string s, .string t] w fun e w' => e = .returned (.int .i64 (D.rename s t).1) ∧ Od X wx w0 w' b (D.rename s t).2 := ho.run (fun mb L h hf => rename_any b mb D L M N s t w h gd.i gd.m (by have := gd.n; omega) hs ht)
theorem td_rename (ho : Tw X wx w0 w b g D E) (gd : Good D M N) (s : ByteArray) (hs : s.size ≤ maxLen) (t : ByteArray) (ht : t.size ≤ maxLen) : Calls Try.prog 19 #[ptr b, .string s, .string t] w fun e w' => e = .returned (.int .i64 (D.rename s t).1) ∧ Tw X wx w0 w' b g (D.rename s t).2 E := ho.run1 (fun mb L h hf => rename_any b mb D L M N s t w h gd.i gd.m (by have := gd.n; omega) hs ht)
theorem tr_rename (ho : Tw X wx w0 w b g D E) (gd : Good E M N) (s : ByteArray) (hs : s.size ≤ maxLen) (t : ByteArray) (ht : t.size ≤ maxLen) : Calls Try.prog 49 #[ptr g, .string s, .string t] w fun e w' => e = .returned (.int .i64 (E.rename s t).1) ∧ Tw X wx w0 w' b g D (E.rename s t).2 := ho.run2 (fun vF L h hf => rrename_any g vF E L M N s t w h gd.i gd.m (by have := gd.n; omega) hs ht)
theorem od_fuse (ho : Od X wx w0 w b D) (n : Int) : Calls Try.prog 16 #[ptr b, .int .i64 n] w fun e w' => e = .returned (.int .i64 (D.setFuse n).1) ∧ Od X wx w0 w' b (D.setFuse n).2 := ho.run (fun mb L h hf => fuse_any b mb D L w h n)
theorem td_fuse (ho : Tw X wx w0 w b g D E) (n : Int) : Calls Try.prog 16 #[ptr b, .int .i64 n] w fun e w' => e = .returned (.int .i64 (D.setFuse n).1) ∧ Tw X wx w0 w' b g (D.setFuse n).2 E := ho.run1 (fun mb L h hf => fuse_any b mb D L w h n)
theorem tr_fuse (ho : Tw X wx w0 w b g D E) (n : Int) : Calls Try.prog 51 #[ptr g, .int .i64 n] w fun e w' => e = .returned (.int .i64 (E.setFuse n).1) ∧ Tw X wx w0 w' b g D (E.setFuse n).2 := ho.run2 (fun vF L h hf => rfuse_any g vF E L w h n)
theorem od_turn (ho : Od X wx w0 w b D) (gd : Good D M N) (s : ByteArray) (hs : s.size ≤ maxLen) (n : Int) (c : UInt8) : Calls Try.prog 22 #[ptr b, .string s, .int .i64 n, .int .u8 (c.toNat : Int)] w fun e w' => e = .returned (.int .i64 (D.turn s n c).1) ∧ Od X wx w0 w' b (D.turn s n c).2 := ho.run (fun mb L h hf => turn_any b mb D L M N s n c w h gd.i hs)
theorem td_turn (ho : Tw X wx w0 w b g D E) (gd : Good D M N) (s : ByteArray) (hs : s.size ≤ maxLen) (n : Int) (c : UInt8) : Calls Try.prog 22 #[ptr b, .string s, .int .i64 n, .int .u8 (c.toNat : Int)] w fun e w' => e = .returned (.int .i64 (D.turn s n c).1) ∧ Tw X wx w0 w' b g (D.turn s n c).2 E := ho.run1 (fun mb L h hf => turn_any b mb D L M N s n c w h gd.i hs)
theorem tr_turn (ho : Tw X wx w0 w b g D E) (gd : Good E M N) (s : ByteArray) (hs : s.size ≤ maxLen) (n : Int) (c : UInt8) : Calls Try.prog 54 #[ptr g, .string s, .int .i64 n, .int .u8 (c.toNat : Int)] w fun e w' => e = .returned (.int .i64 (E.turn s n c).1) ∧ Tw X wx w0 w' b g D (E.turn s n c).2 := ho.run2 (fun vF L h hf => rturn_any g vF E L M N s n c w h gd.i hs)
theorem od_crash (ho : Od X wx w0 w b D) (gd : Good D M N) (keep : List Int) (v : Value) (hk : Row w v 1 keep.length (keep.map (Value.int .i64))) (hwf : ∀ x ∈ keep, x ≤ 9223372036854775807) (hap : keep ≠ [] → ∀ k, v.ownBlock = some k → X k ∨ k < w0.heap.size) : Calls Try.prog 13 #[ptr b, v] w fun e w' => e = .returned (.int .i64 (D.crash keep).1) ∧ Od X wx w0 w' b (D.crash keep).2 := ho.run (fun mb L h hf => crash_all b mb D L M N keep v w h gd.i gd.m hk (fun hne k hk e => (hap hne k e).elim (hf k hk).2 (fun h2 => absurd (hf k hk).1 (by omega))) hwf)
theorem td_crash (ho : Tw X wx w0 w b g D E) (gd : Good D M N) (keep : List Int) (v : Value) (hk : Row w v 1 keep.length (keep.map (Value.int .i64))) (hwf : ∀ x ∈ keep, x ≤ 9223372036854775807) (hap : keep ≠ [] → ∀ k, v.ownBlock = some k → X k ∨ k < w0.heap.size) : Calls Try.prog 13 #[ptr b, v] w fun e w' => e = .returned (.int .i64 (D.crash keep).1) ∧ Tw X wx w0 w' b g (D.crash keep).2 E := ho.run1 (fun mb L h hf => crash_all b mb D L M N keep v w h gd.i gd.m hk (fun hne k hk e => (hap hne k e).elim (hf k hk).2 (fun h2 => absurd (hf k hk).1 (by omega))) hwf)
theorem tr_crash (ho : Tw X wx w0 w b g D E) (gd : Good E M N) (keep : List Int) (v : Value) (hk : Row w v 1 keep.length (keep.map (Value.int .i64))) (hwf : ∀ x ∈ keep, x ≤ 9223372036854775807) (hap : keep ≠ [] → ∀ k, v.ownBlock = some k → X k ∨ k < w0.heap.size) : Calls Try.prog 53 #[ptr g, v] w fun e w' => e = .returned (.int .i64 (E.crash keep).1) ∧ Tw X wx w0 w' b g D (E.crash keep).2 := ho.run2 (fun vF L h hf => rcrash_all g vF E L M N keep v w h gd.i gd.m hk (fun hne k hk e => (hap hne k e).elim (hf k hk).2 (fun h2 => absurd (hf k hk).1 (by omega))) hwf)
theorem od_free (ho : Od X wx w0 w b D) : Calls Try.prog 27 #[ptr b] w fun e w' => e = .returned (.int .i64 0) ∧ Od X wx w0 w' b D.free := ho.run (fun mb L h hf => free_any b mb D L w h)
theorem td_free (ho : Tw X wx w0 w b g D E) : Calls Try.prog 27 #[ptr b] w fun e w' => e = .returned (.int .i64 0) ∧ Tw X wx w0 w' b g D.free E := ho.run1 (fun mb L h hf => free_any b mb D L w h)
theorem tr_free (ho : Tw X wx w0 w b g D E) : Calls Try.prog 52 #[ptr g] w fun e w' => e = .returned (.int .i64 0) ∧ Tw X wx w0 w' b g D E.free := ho.run2 (fun vF L h hf => rfree_any g vF E L w h)
theorem od_on (ho : Od X wx w0 w b D) : Calls Try.prog 17 #[ptr b] w fun e w' => e = .returned (.bool (!D.off)) ∧ w = w' := by
  obtain ⟨mb, L, h, -⟩ := ho.d
  exact on_any b mb D L w h
theorem od_steps (ho : Od X wx w0 w b D) : Calls Try.prog 28 #[ptr b] w fun e w' => e = .returned (.int .i64 D.steps) ∧ w = w' := by
  obtain ⟨mb, L, h, -⟩ := ho.d
  exact steps_any b mb D L w h
theorem od_left (ho : Od X wx w0 w b D) (gd : Good D M N) : Calls Try.prog 18 #[ptr b] w fun e w' => e = .returned (.int .i64 D.leftP) ∧ Below w.heap.size w w' := by
  obtain ⟨mb, L, h, -⟩ := ho.d
  exact leftP_any b mb D L w h M N gd.i
theorem tr_left (ho : Tw X wx w0 w b g D E) (gd : Good E M N) : Calls Try.prog 58 #[ptr g] w fun e w' => e = .returned (.int .i64 E.leftP) ∧ w = w' := by
  obtain ⟨mb, L, vF, L2, -, h, -⟩ := ho.d
  exact rleftP_any g vF E L2 w h M N gd.i
theorem od_names (ho : Od X wx w0 w b D) (gd : Good D M N) : Calls Try.prog 21 #[ptr b] w fun e w' => ∃ v, e = .returned v ∧ w'.ownsRow w.heap.size 9 1 v D.names.length (D.names.map Value.string) ∧ Below w.heap.size w w' := by
  obtain ⟨mb, L, h, -⟩ := ho.d
  exact names_any b mb D L w h gd.i.rise (Nat.le_trans gd.i.len gd.m)
theorem tr_names (ho : Tw X wx w0 w b g D E) (gd : Good E M N) : Calls Try.prog 57 #[ptr g] w fun e w' => ∃ v, e = .returned v ∧ w'.ownsRow w.heap.size 9 1 v E.names.length (E.names.map Value.string) ∧ Below w.heap.size w w' := by
  obtain ⟨mb, L, vF, L2, -, h, -⟩ := ho.d
  exact rnames_any g vF E L2 w h (by rw [h.len]; exact Nat.le_trans gd.i.len gd.m)
theorem od_synced (ho : Od X wx w0 w b D) (s : ByteArray) (hs : s.size ≤ maxLen) : Calls Try.prog 15 #[ptr b, .string s] w fun e w' => e = .returned (.tuple #[.int .i64 (D.synced s).2, .int .i64 (D.synced s).1]) ∧ Below w.heap.size w w' := by
  obtain ⟨mb, L, h, -⟩ := ho.d
  exact synced_any b mb D L w h s hs
theorem tr_synced (ho : Tw X wx w0 w b g D E) (gd : Good E M N) (s : ByteArray) (hs : s.size ≤ maxLen) : Calls Try.prog 55 #[ptr g, .string s] w fun e w' => e = .returned (.tuple #[.int .i64 (E.synced s).2, .int .i64 (E.synced s).1]) ∧ Below w.heap.size w w' := by
  obtain ⟨mb, L, vF, L2, -, h, -⟩ := ho.d
  exact rsynced_any g vF E L2 w h s hs gd.i.rise
theorem od_read (ho : Od X wx w0 w b D) (gd : Good D M N) (s : ByteArray) (hs : s.size ≤ maxLen) : Calls Try.prog 14 #[ptr b, .string s] w fun e w' => ∃ v, e = .returned (.tuple #[v, .int .i64 (D.read s).1]) ∧ Fresh w.heap.size w' v (D.read s).2 ∧ Below w.heap.size w w' := by
  obtain ⟨mb, L, h, -⟩ := ho.d
  exact read_any b mb D L w h s hs M N gd.i
theorem tr_read (ho : Tw X wx w0 w b g D E) (gd : Good E M N) (s : ByteArray) (hs : s.size ≤ maxLen) : Calls Try.prog 56 #[ptr g, .string s] w fun e w' => ∃ v, e = .returned (.tuple #[v, .int .i64 (E.read s).1]) ∧ Fresh w.heap.size w' v (E.read s).2 ∧ Below w.heap.size w w' := by
  obtain ⟨mb, L, vF, L2, -, h, -⟩ := ho.d
  exact rread_any g vF E L2 w h s hs gd.i.rise M N gd.i
end
end Go.Proofs.Ytgcemddobcjpnaa
