/-
  Layer 26 (push): the numbers of a push.
-/
import Derived.Test.YtobcjbpgeohbgaaGreatDoorForm
import Derived.Laws.CopyOwn
import Derived.Deep.RegionHeld3
import Derived.Handy
namespace Go.Proofs.YtobcjbpgeohbgaaGreatDoor
open Go.RowKit
set_option linter.unusedVariables false

structure Ps where
  p0 : Int
  p1 : Int
  p2 : Int
  p3 : Int
  p4 : Int
  p5 : Int
  p6 : Int
  p7 : Int
  p8 : Int
instance : Inhabited Ps := ⟨⟨0, 0, 0, 0, 0, 0, 0, 0, 0⟩⟩
def psCells (x : Ps) : List Value := [.int .i64 x.p0, .int .i64 x.p1, .int .i64 x.p2, .int .i64 x.p3, .int .i64 x.p4, .int .i64 x.p5, .int .i64 x.p6, .int .i64 x.p7, .int .i64 x.p8]
abbrev psV (x : Ps) : Value := .agg #[.int .i64 x.p0, .int .i64 x.p1, .int .i64 x.p2, .int .i64 x.p3, .int .i64 x.p4, .int .i64 x.p5, .int .i64 x.p6, .int .i64 x.p7, .int .i64 x.p8]
/-- Number k. -/
def pf (x : Ps) (k : Nat) : Int := [x.p0, x.p1, x.p2, x.p3, x.p4, x.p5, x.p6, x.p7, x.p8].getD k 0
def pw (k : Nat) : Nat := [1, 4, 2, 2, 1, 1, 1, 1, 1].getD k 1
theorem lt9 {i : Nat} (h : i < 9) : i = 0 ∨ i = 1 ∨ i = 2 ∨ i = 3 ∨ i = 4 ∨ i = 5 ∨ i = 6 ∨ i = 7 ∨ i = 8 := by omega
theorem ps_at (x : Ps) (k : Nat) (h : k < 9) : (psCells x)[k]? = some (.int .i64 (pf x k)) := by
  rcases lt9 h with rfl | rfl | rfl | rfl | rfl | rfl | rfl | rfl | rfl <;> rfl
theorem pw_rng (k : Nat) (h : k < 9) : 1 ≤ pw k ∧ pw k ≤ 6 := by
  rcases lt9 h with rfl | rfl | rfl | rfl | rfl | rfl | rfl | rfl | rfl <;> decide
/-- Block B is a push's variable. -/
def PsAt (w : World) (B : Nat) (x : Ps) : Prop := IsObj w B 30 (psCells x)
theorem PsAt.same {w w' : World} {b : Nat} {x : Ps} (h : PsAt w b x) (hb : Below w.heap.size w w') : PsAt w' b x := IsObj.below h hb h.lt
theorem PsAt.only {w w' : World} {b c : Nat} {x : Ps} (h : PsAt w b x) (ho : Only c w w') (hne : b ≠ c) : PsAt w' b x := IsObj.only h ho hne
theorem PsAt.nine {w : World} {B : Nat} {x : Ps} (h : PsAt w B x) : w.cell? ⟨B, 0, none⟩ = some (.int .i64 x.p0) ∧ w.cell? ⟨B, 1, none⟩ = some (.int .i64 x.p1) ∧ w.cell? ⟨B, 2, none⟩ = some (.int .i64 x.p2) ∧ w.cell? ⟨B, 3, none⟩ = some (.int .i64 x.p3) ∧ w.cell? ⟨B, 4, none⟩ = some (.int .i64 x.p4) ∧ w.cell? ⟨B, 5, none⟩ = some (.int .i64 x.p5) ∧ w.cell? ⟨B, 6, none⟩ = some (.int .i64 x.p6) ∧ w.cell? ⟨B, 7, none⟩ = some (.int .i64 x.p7) ∧ w.cell? ⟨B, 8, none⟩ = some (.int .i64 x.p8) :=
  ⟨IsObj.cell h 0, IsObj.cell h 1, IsObj.cell h 2, IsObj.cell h 3, IsObj.cell h 4, IsObj.cell h 5, IsObj.cell h 6, IsObj.cell h 7, IsObj.cell h 8⟩
/-- The package's widths lie where they were laid. -/
def WdAt (w : World) : Prop := ∀ k, k < 9 → w.cell? ⟨0, k, none⟩ = some (.int .i64 (pw k : Int))
theorem WdAt.same {w w' : World} (h : WdAt w) (hb : Below w.heap.size w w') : WdAt w' := fun k hk => cell_keep hb (h k hk)
theorem WdAt.lt {w : World} (h : WdAt w) : 0 < w.heap.size := cell_lt (h 0 (by omega))
theorem WdAt.only {w w' : World} {c : Nat} (h : WdAt w) (ho : Only c w w') (hne : 0 < c) : WdAt w' := fun k hk => ho.keep (h k hk) (by simp; omega)
theorem idx9 (x : Ps) (k : Nat) (h : k < 9) (w : World) : (Instr.index 113 (psV x) (.int .i64 k)).run Tryz.prog w = .ok (.int .i64 (pf x k)) w := by
  rcases lt9 h with rfl | rfl | rfl | rfl | rfl | rfl | rfl | rfl | rfl <;> kernel_rfl

theorem alloc_sizeP (w : World) (o : Obj) : (w.alloc o).heap.size = w.heap.size + 1 := by simp
theorem addr_add0 (b j : Nat) : Addr.add ⟨b, 0, none⟩ j = ⟨b, j, none⟩ := by
  unfold Addr.add
  split <;> simp_all
abbrev z9 : List Value := [.int .i64 0, .int .i64 0, .int .i64 0, .int .i64 0, .int .i64 0, .int .i64 0, .int .i64 0, .int .i64 0, .int .i64 0]
abbrev kn7 (x : Ps) : List Value := [.int .i64 x.p2, .int .i64 x.p3, .int .i64 x.p4, .int .i64 x.p5, .int .i64 x.p6, .int .i64 x.p7, .int .i64 x.p8]
abbrev hd9 (x : Ps) : List Value := [.int .i64 x.p0, .int .i64 x.p1, .int .i64 0, .int .i64 0, .int .i64 0, .int .i64 0, .int .i64 0, .int .i64 0, .int .i64 0]
theorem seven {w : World} {B : Nat} {x : Ps} {t : TypeId} (h : IsObj w B t (kn7 x)) : w.cell? ⟨B, 0, none⟩ = some (.int .i64 x.p2) ∧ w.cell? ⟨B, 1, none⟩ = some (.int .i64 x.p3) ∧ w.cell? ⟨B, 2, none⟩ = some (.int .i64 x.p4) ∧ w.cell? ⟨B, 3, none⟩ = some (.int .i64 x.p5) ∧ w.cell? ⟨B, 4, none⟩ = some (.int .i64 x.p6) ∧ w.cell? ⟨B, 5, none⟩ = some (.int .i64 x.p7) ∧ w.cell? ⟨B, 6, none⟩ = some (.int .i64 x.p8) :=
  ⟨IsObj.cell h 0, IsObj.cell h 1, IsObj.cell h 2, IsObj.cell h 3, IsObj.cell h 4, IsObj.cell h 5, IsObj.cell h 6⟩
/-- Nine numbers, cell by cell, into a variable. -/
def set9 (w : World) (T : Nat) (a b c d e f g h i : Int) : World := ((((((((w.setCell ⟨T, 0, none⟩ (.int .i64 a)).setCell ⟨T, 1, none⟩ (.int .i64 b)).setCell ⟨T, 2, none⟩ (.int .i64 c)).setCell ⟨T, 3, none⟩ (.int .i64 d)).setCell ⟨T, 4, none⟩ (.int .i64 e)).setCell ⟨T, 5, none⟩ (.int .i64 f)).setCell ⟨T, 6, none⟩ (.int .i64 g)).setCell ⟨T, 7, none⟩ (.int .i64 h)).setCell ⟨T, 8, none⟩ (.int .i64 i)
theorem set9_at {w : World} {T t : Nat} {y : Ps} (h : IsObj w T t (psCells y)) (x : Ps) : IsObj (set9 w T x.p0 x.p1 x.p2 x.p3 x.p4 x.p5 x.p6 x.p7 x.p8) T t (psCells x) :=
  ((((((((IsObj.set h 0 (.int .i64 x.p0)).set 1 (.int .i64 x.p1)).set 2 (.int .i64 x.p2)).set 3 (.int .i64 x.p3)).set 4 (.int .i64 x.p4)).set 5 (.int .i64 x.p5)).set 6 (.int .i64 x.p6)).set 7 (.int .i64 x.p7)).set 8 (.int .i64 x.p8)
theorem set9_below {w w0 : World} {T B : Nat} {a b c d e f g h i : Int} (hb : Below B w0 w) (hB : B ≤ T) : Below B w0 (set9 w T a b c d e f g h i) :=
  ((((((((hb.setCell (p := ⟨T, 0, none⟩) hB _).setCell (p := ⟨T, 1, none⟩) hB _).setCell (p := ⟨T, 2, none⟩) hB _).setCell (p := ⟨T, 3, none⟩) hB _).setCell (p := ⟨T, 4, none⟩) hB _).setCell (p := ⟨T, 5, none⟩) hB _).setCell (p := ⟨T, 6, none⟩) hB _).setCell (p := ⟨T, 7, none⟩) hB _).setCell (p := ⟨T, 8, none⟩) hB _
theorem nine {w : World} {B t : Nat} {x : Ps} (h : IsObj w B t (psCells x)) : w.cell? ⟨B, 0, none⟩ = some (.int .i64 x.p0) ∧ w.cell? ⟨B, 1, none⟩ = some (.int .i64 x.p1) ∧ w.cell? ⟨B, 2, none⟩ = some (.int .i64 x.p2) ∧ w.cell? ⟨B, 3, none⟩ = some (.int .i64 x.p3) ∧ w.cell? ⟨B, 4, none⟩ = some (.int .i64 x.p4) ∧ w.cell? ⟨B, 5, none⟩ = some (.int .i64 x.p5) ∧ w.cell? ⟨B, 6, none⟩ = some (.int .i64 x.p6) ∧ w.cell? ⟨B, 7, none⟩ = some (.int .i64 x.p7) ∧ w.cell? ⟨B, 8, none⟩ = some (.int .i64 x.p8) :=
  ⟨IsObj.cell h 0, IsObj.cell h 1, IsObj.cell h 2, IsObj.cell h 3, IsObj.cell h 4, IsObj.cell h 5, IsObj.cell h 6, IsObj.cell h 7, IsObj.cell h 8⟩
set_option maxRecDepth 100000 in
set_option maxHeartbeats 1000000 in
theorem pnumbers_any (x : Ps) (w : World) : Calls Tryz.prog 89 #[psV x] w fun e w' => e = .returned (psV x) ∧ Below w.heap.size w w' := by
  go_enter Tryz.func89, Tryz.ntmps89
  go_wp2
  obtain ⟨W1, hW1⟩ : ∃ W1, W1 = (((w.alloc (.cells (psCells x).toArray 30)).alloc (.cells z9.toArray 113)).alloc (.cells (kn7 x).toArray 28)).alloc (.cells (hd9 x).toArray 113) := ⟨_, rfl⟩
  have hR : IsObj W1 (w.heap.size + 1) 113 z9 := by
    have := IsObj.new (w.alloc (.cells (psCells x).toArray 30)) 113 z9
    rw [alloc_sizeP] at this
    rw [hW1]
    exact (this.alloc _).alloc _
  have hB : IsObj W1 (w.heap.size + 1 + 1) 28 (kn7 x) := by
    have := IsObj.new ((w.alloc (.cells (psCells x).toArray 30)).alloc (.cells z9.toArray 113)) 28 (kn7 x)
    rw [alloc_sizeP, alloc_sizeP] at this
    rw [hW1]
    exact this.alloc _
  have hC : IsObj W1 (w.heap.size + 1 + 1 + 1) 113 (hd9 x) := by
    have := IsObj.new (((w.alloc (.cells (psCells x).toArray 30)).alloc (.cells z9.toArray 113)).alloc (.cells (kn7 x).toArray 28)) 113 (hd9 x)
    rw [alloc_sizeP, alloc_sizeP, alloc_sizeP] at this
    rw [hW1]
    exact this
  have hb : Below w.heap.size w W1 := by
    rw [hW1]
    exact ((((Below.refl _ _).alloc (Nat.le_refl _) _).alloc (by simp) _).alloc (by simp; omega) _).alloc (by simp; omega) _
  have hsz : W1.heap.size = w.heap.size + 1 + 1 + 1 + 1 := by rw [hW1]; simp
  simp only [psCells] at hW1
  rw [← hW1]
  clear hW1
  obtain ⟨R, hR0⟩ : ∃ R, R = w.heap.size + 1 := ⟨_, rfl⟩
  obtain ⟨B, hB0⟩ : ∃ B, B = R + 1 := ⟨_, rfl⟩
  obtain ⟨C, hC0⟩ : ∃ C, C = B + 1 := ⟨_, rfl⟩
  rw [← hR0] at hR hB hC hsz ⊢
  rw [← hB0] at hB hC hsz ⊢
  rw [← hC0] at hC hsz ⊢
  have hwR : w.heap.size ≤ R := by omega
  have hRC : R < C := by omega
  have hBC : B < C := by omega
  clear hR0 hB0 hC0
  have HB := Lib.hid hB
  have HC := Lib.hid hC
  have HR := Lib.hid hR
  have HBl := Lib.hid hb
  obtain ⟨c0, c1, c2, c3, c4, c5, c6⟩ := seven hB
  have d0 := IsObj.cell hC 0
  have n0 := World.new_ne W1 _ c0
  have n1 := World.new_ne W1 _ c1
  have n2 := World.new_ne W1 _ c2
  have n3 := World.new_ne W1 _ c3
  have n4 := World.new_ne W1 _ c4
  have n5 := World.new_ne W1 _ c5
  have n6 := World.new_ne W1 _ c6
  have HS := Lib.hid hsz
  clear hR hB hC hb hsz
  go_region_held3 (fun w' => w'.cell? ⟨B, 0, none⟩ = some (.int .i64 x.p2) ∧ w'.cell? ⟨B, 1, none⟩ = some (.int .i64 x.p3) ∧ w'.cell? ⟨B, 2, none⟩ = some (.int .i64 x.p4) ∧ w'.cell? ⟨B, 3, none⟩ = some (.int .i64 x.p5) ∧ w'.cell? ⟨B, 4, none⟩ = some (.int .i64 x.p6) ∧ w'.cell? ⟨B, 5, none⟩ = some (.int .i64 x.p7) ∧ w'.cell? ⟨B, 6, none⟩ = some (.int .i64 x.p8)) (first | go_keep | assumption)
    ((refine step_copy_splice rfl (.tmp 12) (.tmp 27) 84 84 rfl 3 Tryz.underlying84 (by kernel_rfl) _ _ 7 7 7 7 (by simp [Act.eval]) (by simp [Act.eval]) C 2 (hd9 x) 113 (HC.out.alloc _).drew (kn7 x) rfl (fun _ => ⟨rfl, ⟨W1.heap.size, 0, none⟩, rfl, fun j v hj => by rw [addr_add0]; show (W1.alloc _).cell? _ = _; rw [cell_new]; simpa using hj⟩) (by simp) (by simp [Value.oneCell']) C W1 (((Below.refl _ _).alloc (by have := HS.out; omega) _).drew) (Nat.le_refl _) ?_; intro w2 hg2 hb2; have hk7 := seven (IsObj.below HB.out hb2 hBC)))
  have hC2 : IsObj w2 C 113 (psCells x) := hg2.out
  have hR2 : IsObj w2 R 113 (psCells default) := IsObj.below HR.out hb2 hRC
  have HB2 := Lib.hid (HBl.out.trans (hb2.mono (by have := HBl.out.size; omega)))
  clear hg2 hb2 hk7 c0 c1 c2 c3 c4 c5 c6 d0 n0 n1 n2 n3 n4 n5 n6 HB HC HR HBl HS
  obtain ⟨e0, e1, e2, e3, e4, e5, e6, e7, e8⟩ := nine hC2
  obtain ⟨t0, t1, t2, t3, t4, t5, t6, t7, t8⟩ := nine hR2
  have fr : ∀ j, w2.frozen? ⟨R, j, none⟩ = false := fun j => IsObj.free hR2 j
  have HR2 := Lib.hid hR2
  clear hC2 hR2
  go_wp2
  obtain ⟨W', hW'⟩ : ∃ W', W' = set9 w2 R x.p0 x.p1 x.p2 x.p3 x.p4 x.p5 x.p6 x.p7 x.p8 := ⟨_, rfl⟩
  have hF := set9_at HR2.out x
  rw [← hW'] at hF
  have hFB : Below w.heap.size w W' := by rw [hW']; exact set9_below HB2.out hwR
  obtain ⟨k0, k1, k2, k3, k4, k5, k6, k7, k8⟩ := nine hF
  have HFB := Lib.hid hFB
  unfold set9 at hW'
  rw [← hW']
  clear hW' hF hFB
  refine bodyPost_ret (v := psV x) (by simp [results, Tryz.results89, go_sem, k0, k1, k2, k3, k4, k5, k6, k7, k8]) rfl ?_
  exact ⟨rfl, HFB.out⟩
end Go.Proofs.YtobcjbpgeohbgaaGreatDoor
