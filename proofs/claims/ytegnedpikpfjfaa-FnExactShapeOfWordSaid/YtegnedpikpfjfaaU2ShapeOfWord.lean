/- Texts of this claim, one behind the other: part 2. -/
import Derived.Test.YtegnedpikpfjfaaU1ShapeOfWord
import Derived.Shelf.Small.Bits
import Derived.Shelf.Strconv.Itoa0
import Derived.Ground.GgsProg
import Derived.Shelf.GgSortFunc.Insertion
import Derived.Shelf.GgSortFunc.Small
import Derived.Shelf.GgSortFunc.InsertionK
import Derived.Shelf.GgSortFunc.SmallK
import Derived.Shelf.GgSortFunc.Tiny
import Derived.Shelf.GgSortFunc.Compose
import Derived.Shelf.GgSortFunc.LotD
import Derived.Shelf.GgSortFunc.Pivot
import Derived.Shelf.GgSortFunc.Partition
import Derived.Shelf.GgSortFunc.Pdq
import Derived.Shelf.GgSortFunc.Whole
import Derived.Shelf.SlSortFunc.Xorshift
import Derived.Shelf.SlSortFuncK.ComposeK
import Derived.Shelf.SlSortFuncK.SiftDownK
import Derived.Shelf.SlSortFuncK.HeapSortK
import Derived.Shelf.SlSortFuncK.PartialInsertionK
import Derived.Shelf.SlSortFuncK.LotDK
import Derived.Shelf.SlSortFuncK.PivotK
import Derived.Shelf.SlSortFuncK.PartitionK
import Derived.Shelf.SlSortFunc.SiftDown
import Derived.Shelf.SlSortFunc.HeapSort
import Derived.Shelf.SlSortFunc.PartialInsertion
import Derived.Shelf.SlSortFuncK.PdqK
import Derived.Shelf.SlSortFuncK.WholeK
import Derived.Test.YtegnedpikpfjfaaProg
import Derived.Lib.ReflectliteSwap
import Derived.Outline
import Derived.WalkLawsBesides
import Derived.WalkSpells
import Derived.BigQuiet
import Derived.Deep.QuietTactic
import Derived.Deep.RegionHeld3
import Derived.Deep.RegionWith
import Derived.Deep.DeepCutAuto
import Derived.Deep.CutBlock
import Derived.Deep.DrawnRows
import Derived.Sort.AssemblyPlain
import Derived.Laws.Bits64
import Derived.Laws.Bits64b
import Derived.Lib.BitFns
import Derived.Sort.Row
/-
  DERIVED: THE SHELF's CONTRACTS AT THIS DUMP, IN PLAIN WORDS (tools/lay-plain.mjs out of 'TryShelf.lean', which tools/lay-shelf.mjs wrote): THE SAME DECLARATIONS UNDER THE SAME NAMES: 'import', 'namespace', 'open', 'def', 'theorem' AND NOTHING ELSE: no command of the shelf's: FOR A HAND-IN. Each laying: the table of numbers ('.._ren') and one theorem, a field a fact of the dump's own or the kernel's comparison; each contract: ONE APPLICATION.
-/
namespace Go.Proofs
open Go.Shelf
def Try.laysGg6_ren : Go.Shelf.Ren := ⟨fun | 6 => 25 | 10 => 27 | 11 => 28 | 12 => 29 | 13 => 30 | 14 => 31 | 24 => 41 | 25 => 42 | 26 => 43 | 27 => 44 | 28 => 45 | 29 => 46 | 30 => 47 | 31 => 48 | 32 => 49 | 33 => 50 | 34 => 51 | 35 => 52 | 36 => 53 | 37 => 54 | 38 => 55 | 39 => 56 | n => n, fun | 20 => 20 | 26 => 40 | 35 => 44 | 0 => 0 | 37 => 46 | 3 => 3 | 41 => 50 | 44 => 53 | 49 => 58 | 51 => 60 | 4 => 4 | 54 => 63 | 53 => 62 | 58 => 67 | 5 => 5 | 9 => 9 | 60 => 69 | 64 => 73 | 66 => 75 | 67 => 76 | 17 => 17 | 32 => 41 | 33 => 42 | 82 => 91 | 12 => 12 | 75 => 84 | 76 => 85 | 77 => 86 | 78 => 87 | 79 => 88 | 80 => 89 | n => n, fun | n => n⟩
theorem Try.laysGg6 : Go.Proofs.LaysGg.n6 Try.prog Try.laysGg6_ren := {
  mixed := by kernel_rfl
  f6 := Try.func25.trans (congrArg some (by kernel_rfl))
  f10 := Try.func27.trans (congrArg some (by kernel_rfl))
  f11 := Try.func28.trans (congrArg some (by kernel_rfl))
  f12 := Try.func29.trans (congrArg some (by kernel_rfl))
  f13 := Try.func30.trans (congrArg some (by kernel_rfl))
  f14 := Try.func31.trans (congrArg some (by kernel_rfl))
  f24 := Try.func41.trans (congrArg some (by kernel_rfl))
  f25 := Try.func42.trans (congrArg some (by kernel_rfl))
  f26 := Try.func43.trans (congrArg some (by kernel_rfl))
  f27 := Try.func44.trans (congrArg some (by kernel_rfl))
  f28 := Try.func45.trans (congrArg some (by kernel_rfl))
  f29 := Try.func46.trans (congrArg some (by kernel_rfl))
  f30 := Try.func47.trans (congrArg some (by kernel_rfl))
  f31 := Try.func48.trans (congrArg some (by kernel_rfl))
  f32 := Try.func49.trans (congrArg some (by kernel_rfl))
  f33 := Try.func50.trans (congrArg some (by kernel_rfl))
  f34 := Try.func51.trans (congrArg some (by kernel_rfl))
  f35 := Try.func52.trans (congrArg some (by kernel_rfl))
  f36 := Try.func53.trans (congrArg some (by kernel_rfl))
  f37 := Try.func54.trans (congrArg some (by kernel_rfl))
  f38 := Try.func55.trans (congrArg some (by kernel_rfl))
  f39 := Try.func56.trans (congrArg some (by kernel_rfl))
  t0 := Try.underlying0
  a0 := Try.isAgg0
  z0 := Try.sizeOf0
  v0 := Try.zeroValue0
  i0 := by kernel_rfl
  t3 := Try.underlying3
  a3 := Try.isAgg3
  z3 := Try.sizeOf3
  v3 := Try.zeroValue3
  i3 := by kernel_rfl
  t4 := Try.underlying4
  a4 := Try.isAgg4
  z4 := Try.sizeOf4
  v4 := Try.zeroValue4
  i4 := by kernel_rfl
  t5 := Try.underlying5
  a5 := Try.isAgg5
  z5 := Try.sizeOf5
  v5 := Try.zeroValue5
  i5 := by kernel_rfl
  t9 := Try.underlying9
  a9 := Try.isAgg9
  z9 := Try.sizeOf9
  v9 := Try.zeroValue9
  i9 := by kernel_rfl
  t12 := Try.underlying12
  a12 := Try.isAgg12
  z12 := Try.sizeOf12
  v12 := Try.zeroValue12
  i12 := by kernel_rfl
  t17 := Try.underlying17
  a17 := Try.isAgg17
  z17 := Try.sizeOf17
  v17 := Try.zeroValue17
  i17 := by kernel_rfl
  t20 := Try.underlying20
  a20 := Try.isAgg20
  z20 := Try.sizeOf20
  v20 := Try.zeroValue20
  i20 := by kernel_rfl
  t26 := Try.underlying40
  a26 := Try.isAgg40
  z26 := Try.sizeOf40
  v26 := Try.zeroValue40
  i26 := by kernel_rfl
  t32 := Try.underlying41
  a32 := Try.isAgg41
  z32 := Try.sizeOf41
  v32 := Try.zeroValue41
  i32 := by kernel_rfl
  t33 := Try.underlying42
  a33 := Try.isAgg42
  z33 := Try.sizeOf42
  v33 := Try.zeroValue42
  i33 := by kernel_rfl
  t35 := Try.underlying44
  a35 := Try.isAgg44
  z35 := Try.sizeOf44
  v35 := Try.zeroValue44
  i35 := by kernel_rfl
  t37 := Try.underlying46
  a37 := Try.isAgg46
  z37 := Try.sizeOf46
  v37 := Try.zeroValue46
  i37 := by kernel_rfl
  t41 := Try.underlying50
  a41 := Try.isAgg50
  z41 := Try.sizeOf50
  v41 := Try.zeroValue50
  i41 := by kernel_rfl
  t44 := Try.underlying53
  a44 := Try.isAgg53
  z44 := Try.sizeOf53
  v44 := Try.zeroValue53
  i44 := by kernel_rfl
  t49 := Try.underlying58
  a49 := Try.isAgg58
  z49 := Try.sizeOf58
  v49 := Try.zeroValue58
  i49 := by kernel_rfl
  t51 := Try.underlying60
  a51 := Try.isAgg60
  z51 := Try.sizeOf60
  v51 := Try.zeroValue60
  i51 := by kernel_rfl
  t53 := Try.underlying62
  a53 := Try.isAgg62
  z53 := Try.sizeOf62
  v53 := Try.zeroValue62
  i53 := by kernel_rfl
  t54 := Try.underlying63
  a54 := Try.isAgg63
  z54 := Try.sizeOf63
  v54 := Try.zeroValue63
  i54 := by kernel_rfl
  t58 := Try.underlying67
  a58 := Try.isAgg67
  z58 := Try.sizeOf67
  v58 := Try.zeroValue67
  i58 := by kernel_rfl
  t60 := Try.underlying69
  a60 := Try.isAgg69
  z60 := Try.sizeOf69
  v60 := Try.zeroValue69
  i60 := by kernel_rfl
  t64 := Try.underlying73
  a64 := Try.isAgg73
  z64 := Try.sizeOf73
  v64 := Try.zeroValue73
  i64 := by kernel_rfl
  t66 := Try.underlying75
  a66 := Try.isAgg75
  z66 := Try.sizeOf75
  v66 := Try.zeroValue75
  i66 := by kernel_rfl
  t67 := Try.underlying76
  a67 := Try.isAgg76
  z67 := Try.sizeOf76
  v67 := Try.zeroValue76
  i67 := by kernel_rfl
  t75 := Try.underlying84
  a75 := Try.isAgg84
  z75 := Try.sizeOf84
  v75 := Try.zeroValue84
  i75 := by kernel_rfl
  t76 := Try.underlying85
  a76 := Try.isAgg85
  z76 := Try.sizeOf85
  v76 := Try.zeroValue85
  i76 := by kernel_rfl
  t77 := Try.underlying86
  a77 := Try.isAgg86
  z77 := Try.sizeOf86
  v77 := Try.zeroValue86
  i77 := by kernel_rfl
  t78 := Try.underlying87
  a78 := Try.isAgg87
  z78 := Try.sizeOf87
  v78 := Try.zeroValue87
  i78 := by kernel_rfl
  t79 := Try.underlying88
  a79 := Try.isAgg88
  z79 := Try.sizeOf88
  v79 := Try.zeroValue88
  i79 := by kernel_rfl
  t80 := Try.underlying89
  a80 := Try.isAgg89
  z80 := Try.sizeOf89
  v80 := Try.zeroValue89
  i80 := by kernel_rfl
  t82 := Try.underlying91
  a82 := Try.isAgg91
  z82 := Try.sizeOf91
  v82 := Try.zeroValue91
  i82 := by kernel_rfl }
end Go.Proofs

/- Cells put in order: the library's sort at twelve cells or fewer, with the program's own test. -/
namespace Go.Proofs.Ytegnedpikpfjfaa
open Go.RowKit Go.Shelf
set_option linter.unusedVariables false
attribute [local go_sem ↓] Go.wp_at_zero Go.wp_at_succ

theorem sto_default (l : List C) {i : Nat} (h : i < l.length) : l.getD i default = l[i] := getD_in l h
set_option maxHeartbeats 800000 in
/-- The test: does cell i come before cell j? -/
theorem lessCells (Bs base g n c : Nat) (l : List C) (i j : Nat) (w : World) (ho : w.ownsRow base 29 2 (.slice (some ⟨g, 0, none⟩) n c) n (vC l)) (hB : w.cell? ⟨Bs, 0, none⟩ = some (.slice (some ⟨g, 0, none⟩) n c)) (hi : i < n) (hj : j < n) (b : Bool)
    (hb : b = befC (l.getD i default) (l.getD j default)) : Calls Try.prog 26 #[.int .i64 (i : Int), .int .i64 (j : Int), .pointer (some ⟨Bs, 0, none⟩)] w (Ret w (.bool b)) := by
  have hl : l.length = n := by have := own_len ho; rw [vC_length] at this; omega
  have hg := (own_lt ho g rfl).2
  obtain ⟨g1, o1, e1, _, a1, a2⟩ := RdC.at_ (Rd.of_own ho) (show i < l.length by omega)
  obtain ⟨g2, o2, e2, _, b1, b2⟩ := RdC.at_ (Rd.of_own ho) (show j < l.length by omega)
  simp only [Option.some.injEq, Addr.mk.injEq, and_true] at e1 e2
  obtain ⟨rfl, rfl⟩ := e1
  obtain ⟨h1, rfl⟩ := e2
  rw [Nat.zero_add] at a1 a2 b1 b2
  rw [← h1] at b1 b2
  rw [sto_default l (by omega), sto_default l (by omega)] at hb
  obtain ⟨x, hx⟩ : ∃ x, l[i].1 = x := ⟨_, rfl⟩
  obtain ⟨y, hy⟩ : ∃ y, l[i].2 = y := ⟨_, rfl⟩
  obtain ⟨p, hp⟩ : ∃ p, l[j].1 = p := ⟨_, rfl⟩
  obtain ⟨q, hq⟩ : ∃ q, l[j].2 = q := ⟨_, rfl⟩
  rw [show l[i] = (x, y) from Prod.ext hx hy, show l[j] = (p, q) from Prod.ext hp hq] at hb
  rw [hx] at a1
  rw [hy] at a2
  rw [hp] at b1
  rw [hq] at b2
  have HV := Lib.hid hb.symm
  have hBl := World.block_lt_of_cell? w _ hB
  have hi0 : (0 : Int) ≤ (i : Int) := by omega
  have hi1 : (i : Int) < (n : Int) := by omega
  have hj0 : (0 : Int) ≤ (j : Int) := by omega
  have hj1 : (j : Int) < (n : Int) := by omega
  clear ho hx hy hp hq hb h1 hl
  go_enter Try.func26, Try.ntmps26
  go_wp2_with fail
  (refine wp_region_below (by kernel_rfl) (by kernel_rfl) ?_; (repeat (first | go_big_quiet_skip | (refine quietV (v := ?_) (by rfl) rfl (fun w' hbw => ?_) ?_; rotate_left; ((try dsimp only at hbw); have hbc := (bcell hbw).1; have hbf := (bcell hbw).2; go_simp; first | done | with_reducible rfl | exact callsBB (before_i x y p q _) HV.out hbw); simp only [List.setIfInBounds_toArray, List.set_cons_zero, List.set_cons_succ]))); refine wpQuiet_nil ?_; intro wq hbq)
  go_wp2_with fail
  go_ret
  exact ⟨rfl, hbq⟩
theorem own_put {w : World} {base g n c : Nat} {l : List C} (ho : w.ownsRow base 29 2 (.slice (some ⟨g, 0, none⟩) n c) n (vC l)) (k : Nat) (v : C) :
    (w.setCells g (0 + k * 2) [.int .i64 v.1, .int .i64 v.2]).ownsRow base 29 2 (.slice (some ⟨g, 0, none⟩) n c) n (vC (l.set k v)) := by
  have h := ((ho.stored (k * 2) (.int .i64 v.1)).1.stored (k * 2 + 1) (.int .i64 v.2)).1
  rw [vC_set_list] at h
  rw [Nat.zero_add]
  exact h
theorem grown_alloc1 {w w' : World} {o : Obj} {row : Option Nat} (h : (w.alloc o).grownBy w' row) : w.grownBy w' row :=
  ⟨h.os, h.tape, h.output, by have := h.size; simp at this; omega, fun k hk hne => (h.block k (by simp; omega) hne).trans (Below.heap_alloc w o k hk)⟩
theorem grown_of_alloc (w : World) (o : Obj) (r : Option Nat) : w.grownBy (w.alloc o) r := ⟨rfl, rfl, rfl, by simp, fun k hk _ => Below.heap_alloc w o k hk⟩
theorem grown_cells {a w : World} {g o : Nat} (h : a.grownBy w (some g)) (x y : Value) : a.grownBy (w.setCells g o [x, y]) (some g) := grown_set (grown_set h rfl x) rfl y
theorem infoCI : ∃ ie, Try.prog.info? 29 = some ie ∧ ie.size = 2 := by
  obtain ⟨i0, hi, _, hz1, _⟩ := info_parts infoC
  exact ⟨i0, hi, hz1⟩
theorem swapCells (sf : Nat) (gS : Bool) (hx : ∀ args W, (callFunc sf args).run Try.prog W = ((Extern.ReflectliteSwapper.swap gS args).run Try.prog W).andThen fun v w' => .ok (.value v) w') (hagg : ∀ w, (isAgg 29).run Try.prog w = .ok true w)
    (base g n c : Nat) (l : List C) (i j : Nat) (w : World) (ho : w.ownsRow base 29 2 (.slice (some ⟨g, 0, none⟩) n c) n (vC l)) (hi : i < n) (hj : j < n) :
    ∃ w', (callFunc sf #[.int .i64 (i : Int), .int .i64 (j : Int), .slice (some ⟨g, 0, none⟩) n c, typeHandle Try.prog 29]).run Try.prog w = .ok (.value (.tuple #[])) w' ∧
      w'.ownsRow base 29 2 (.slice (some ⟨g, 0, none⟩) n c) n (vC (swL l i j)) ∧ ∀ a, World.grownBy a w (some g) → World.grownBy a w' (some g) := by
  have hl : l.length = n := by have := own_len ho; rw [vC_length] at this; omega
  obtain ⟨ie, hie, hsz⟩ := infoCI
  have hcell : ∀ k (hk : k < n), ∀ u v, ([.int .i64 (l.getD k default).1, .int .i64 (l.getD k default).2] : List Value)[u]? = some v → w.cell? ⟨g, 0 + k * 2 + u, none⟩ = some v := by
    intro k hk u v h
    obtain ⟨g1, o1, e1, _, a1, a2⟩ := RdC.at_ (Rd.of_own ho) (show k < l.length by omega)
    simp only [Option.some.injEq, Addr.mk.injEq, and_true] at e1
    obtain ⟨rfl, rfl⟩ := e1
    rw [sto_default l (by omega)] at h
    match u, h with
    | 0, h => simp at h; rw [← h]; exact a1
    | 1, h => simp at h; rw [← h]; exact a2
    | u + 2, h => simp at h
  have hfro : ∀ o, w.frozen? ⟨g, o, none⟩ = false := fun o => ho.frozenAt o
  have hr := Lib.run_swap_cells (P := Try.prog) gS 29 ie hie hagg g 0 n c i j hi hj [.int .i64 (l.getD i default).1, .int .i64 (l.getD i default).2] [.int .i64 (l.getD j default).1, .int .i64 (l.getD j default).2]
    (by rw [hsz]; rfl) (by rw [hsz]; rfl) (by simp [Value.oneCell']) (by simp [Value.oneCell']) w (by rw [hsz]; exact hcell i hi) (by rw [hsz]; exact hcell j hj) (fun k _ => hfro _) (fun k _ => hfro _)
  rw [hsz] at hr
  refine ⟨_, ?_, own_put (own_put ho i (l.getD j default)) j (l.getD i default), fun a h => grown_cells (grown_cells h _ _) _ _⟩
  rw [hx, hr]
  rfl
/-- The row in order. -/
def SrtP (w : World) (base g n c : Nat) (l : List C) (e : Ending) (w' : World) : Prop :=
  e = .returned (.tuple #[]) ∧ ∃ l', l'.length = n ∧ (∀ x, x ∈ l' ↔ x ∈ l) ∧ l'.Pairwise (fun a b => befC b a = false) ∧ w'.ownsRow base 29 2 (.slice (some ⟨g, 0, none⟩) n c) n (vC l') ∧ w.grownBy w' (some g)
/-- What is asked of the exchange. -/
def Swaps (sf : Nat) (th : Value) (base g n c : Nat) : Prop := ∀ (w : World) (l : List C) (i j : Nat), w.ownsRow base 29 2 (.slice (some ⟨g, 0, none⟩) n c) n (vC l) → i < n → j < n →
  ∃ w', (callFunc sf #[.int .i64 (i : Int), .int .i64 (j : Int), .slice (some ⟨g, 0, none⟩) n c, th]).run Try.prog w = .ok (.value (.tuple #[])) w' ∧
      w'.ownsRow base 29 2 (.slice (some ⟨g, 0, none⟩) n c) n (vC (swL l i j)) ∧ ∀ a, World.grownBy a w (some g) → World.grownBy a w' (some g)
set_option maxHeartbeats 3200000 in
theorem insSort (sf : Nat) (th : Value) (Bs base g n c : Nat) (hsw : Swaps sf th base g n c) (l0 : List C) (w : World) (ho : w.ownsRow base 29 2 (.slice (some ⟨g, 0, none⟩) n c) n (vC l0)) (hB : w.cell? ⟨Bs, 0, none⟩ = some (.slice (some ⟨g, 0, none⟩) n c)) (hBg : Bs ≠ g) (hn : 1 ≤ n) (hn12 : n ≤ 12) :
    Calls Try.prog 43 #[.agg #[.func (.func 26) #[] #[.pointer (some ⟨Bs, 0, none⟩)], .func (.func sf) #[] #[.slice (some ⟨g, 0, none⟩) n c, th]], .int .i64 0, .int .i64 (n : Int)] w (SrtP w base g n c l0) := by
  have hl0 : l0.length = n := by have := own_len ho; rw [vC_length] at this; omega
  have hgl := (own_lt ho g rfl).2
  have HL := Lib.hid hl0
  have HO := Lib.hid ho
  have HBC := Lib.hid hB
  have HSW := Lib.hid hsw
  have HBB := Lib.hid (Blk.new w 53 #[.func (.func 26) #[] #[.pointer (some ⟨Bs, 0, none⟩)], .func (.func sf) #[] #[.slice (some ⟨g, 0, none⟩) n c, th]])
  clear hsw ho hB hl0
  go_enter Try.func43, Try.ntmps43
  go_wp2
  go_loopw [6] (fun e6 wr => ∃ (i : Nat) (l : List C), 1 ≤ i ∧ i ≤ n ∧ e6 = .int .i64 i ∧ l.length = n ∧ (∀ x, x ∈ l ↔ x ∈ l0) ∧ OrdTo befC l i ∧ wr.ownsRow base 29 2 (.slice (some ⟨g, 0, none⟩) n c) n (vC l) ∧ (w.alloc (.cells #[.func (.func 26) #[] #[.pointer (some ⟨Bs, 0, none⟩)], .func (.func sf) #[] #[.slice (some ⟨g, 0, none⟩) n c, th]] 53)).grownBy wr (some g)) (fun e6 _ => n - (intOf e6).toNat)
  case atStart => exact ⟨1, l0, by omega, by omega, by simp, HL.out, fun x => Iff.rfl, OrdTo.start l0, HO.out.alloc _, World.grownBy.refl _ _⟩
  case round =>
    obtain ⟨i, l, hi1, hin, rfl, hll, hmem, hord, hown, hg⟩ := hrel
    have HLL := Lib.hid hll
    have HM := Lib.hid hmem
    have HOR := Lib.hid hord
    have HOW := Lib.hid hown
    have HG := Lib.hid hg
    clear hll hmem hord hown hg
    by_cases hlt : i < n
    · have hiI : (i : Int) < (n : Int) := by omega
      go_wp2
      go_loopw [7] (fun e7 wr => ∃ (j : Nat) (l : List C), j ≤ i ∧ e7 = .int .i64 j ∧ l.length = n ∧ (∀ x, x ∈ l ↔ x ∈ l0) ∧ NearO befC l i j ∧ wr.ownsRow base 29 2 (.slice (some ⟨g, 0, none⟩) n c) n (vC l) ∧ (w.alloc (.cells #[.func (.func 26) #[] #[.pointer (some ⟨Bs, 0, none⟩)], .func (.func sf) #[] #[.slice (some ⟨g, 0, none⟩) n c, th]] 53)).grownBy wr (some g)) (fun e7 _ => (intOf e7).toNat)
      case atStart => exact ⟨i, l, Nat.le_refl _, rfl, HLL.out, HM.out, HOR.out.near, HOW.out, HG.out⟩
      case round =>
        clear HLL HM HOR HOW HG
        obtain ⟨j, l, hji, rfl, hll, hmem, hnear, hown, hg⟩ := hrel
        have HLL := Lib.hid hll
        have HM := Lib.hid hmem
        have HN := Lib.hid hnear
        have HOW := Lib.hid hown
        have HG := Lib.hid hg
        clear hll hmem hnear hown hg
        by_cases hj0 : 0 < j
        · obtain ⟨p, hp⟩ : ∃ p, j = p + 1 := ⟨j - 1, by omega⟩
          have hjI : (j : Int) > 0 := by omega
          have hpI : (j : Int) - 1 = (p : Int) := by omega
          have hpw : IntKind.i64.wrap (p : Int) = (p : Int) := Go.IntWalk.i64_in _ (by omega)
          have HP := Lib.hid hp
          have hBB := HBB.out.grown HG.out (fun e => by injection e with e; omega)
          have b0 : wr.cell? ⟨w.heap.size, 0, none⟩ = some (.func (.func 26) #[] #[.pointer (some ⟨Bs, 0, none⟩)]) := by simpa using hBB.cell 0
          have b1 : wr.cell? ⟨w.heap.size, 1, none⟩ = some (.func (.func sf) #[] #[.slice (some ⟨g, 0, none⟩) n c, th]) := by simpa using hBB.cell 1
          have bl := hBB.lt
          have HBC2 := Lib.hid (keep_grown HG.out (keep_alloc HBC.out) (by simpa using hBg))
          have HBW := Lib.hid hBB
          have hjn : j < n := by omega
          have hpn : p < n := by omega
          clear hBB hp
          cases hbf : befC (l.getD j default) (l.getD p default) with
          | true =>
            have HBF := Lib.hid hbf
            clear hbf
            go_wp2_with fail
            refine (lessCells Bs base g n c l j p _ HOW.out HBC2.out hjn hpn true HBF.out.symm).mono ?_
            rintro e w1 ⟨rfl, hb1⟩
            have hBB1 := HBW.out.below hb1
            have c1 : w1.cell? ⟨w.heap.size, 1, none⟩ = some (.func (.func sf) #[] #[.slice (some ⟨g, 0, none⟩) n c, th]) := by simpa using hBB1.cell 1
            have cl := hBB1.lt
            obtain ⟨w2, hrun, ho2, hg2⟩ := HSW.out w1 l j p (own_keep HOW.out hb1) hjn hpn
            have HO2 := Lib.hid ho2
            have HG2 := Lib.hid (hg2 _ (grown_below HG.out hb1))
            have HN2 : Hid (NearO befC (swL l j p) i p) := by
              have h1 := HN.out
              rw [HP.out] at h1 ⊢
              exact h1.step befC_sto (by omega) (by rw [HLL.out]; exact hlt) (by rw [← HP.out]; exact HBF.out)
            clear hBB1 ho2 hg2 b0 b1 bl
            go_wp2_with fail
            exact ⟨⟨p, swL l j p, by omega, rfl, by rw [swL_len]; exact HLL.out, fun x => (swL_mem l (by rw [HLL.out]; exact hjn) (by rw [HLL.out]; exact hpn) x).trans (HM.out x), HN2.out, HO2.out, HG2.out⟩, by simp [intOf]; omega⟩
          | false =>
            have HBF := Lib.hid hbf
            clear hbf
            go_wp2_with fail
            refine (lessCells Bs base g n c l j p _ HOW.out HBC2.out hjn hpn false HBF.out.symm).mono ?_
            rintro e w1 ⟨rfl, hb1⟩
            have HO2 : Hid (OrdTo befC l (i + 1)) := by
              have h1 := HN.out
              rw [HP.out] at h1
              exact h1.stop befC_sto (by have := HP.out; omega) (by rw [← HP.out]; exact HBF.out)
            go_wp2_with fail
            exact ⟨⟨i + 1, l, by omega, by omega, by go_num, HLL.out, HM.out, HO2.out, own_keep HOW.out hb1, grown_below HG.out hb1⟩, by simp [intOf]; omega⟩
        · obtain rfl : j = 0 := by omega
          have HO2 := Lib.hid (HN.out.zero)
          clear hj0
          go_wp2_with fail
          exact ⟨⟨i + 1, l, by omega, by omega, by go_num, HLL.out, HM.out, HO2.out, HOW.out, HG.out⟩, by simp [intOf]; omega⟩
    · obtain rfl : i = n := by omega
      have hiI : ¬ (i : Int) < (i : Int) := by omega
      go_wp2
      go_end0
      exact ⟨rfl, l, HLL.out, HM.out, OrdTo.done (by rw [HLL.out]; exact HOR.out), HOW.out, grown_alloc1 HG.out⟩
/-- One cell or none: nothing is asked. -/
theorem insSort1 (S : Value) (F : Value) (base g n c : Nat) (l0 : List C) (w : World) (ho : w.ownsRow base 29 2 (.slice (some ⟨g, 0, none⟩) n c) n (vC l0)) (hn : n ≤ 1) :
    Calls Try.prog 43 #[.agg #[F, S], .int .i64 0, .int .i64 (n : Int)] w (SrtP w base g n c l0) := by
  have hl0 : l0.length = n := by have := own_len ho; rw [vC_length] at this; omega
  have HL := Lib.hid hl0
  have HO := Lib.hid ho
  have hnI : ¬ (1 : Int) < (n : Int) := by omega
  clear ho hl0
  go_enter Try.func43, Try.ntmps43
  go_wp2
  go_loopw [6] (fun e6 wr => e6 = .int .i64 1 ∧ wr = w.alloc (.cells #[F, S] 53)) (fun e6 _ => 0)
  case atStart => exact ⟨by simp, rfl⟩
  case round =>
    obtain ⟨rfl, rfl⟩ := hrel
    go_wp2
    go_end0
    refine ⟨rfl, l0, HL.out, fun x => Iff.rfl, ?_, HO.out.alloc _, grown_of_alloc _ _ _⟩
    rcases (by omega : n = 0 ∨ n = 1) with rfl | rfl
    · rw [List.eq_nil_of_length_eq_zero HL.out]; exact List.Pairwise.nil
    · obtain ⟨a, ha⟩ := List.length_eq_one_iff.1 HL.out
      rw [ha]; exact List.pairwise_singleton _ _
theorem pdqSmall (D : Value) (F S : Value) (hD : D = .agg #[F, S]) (base g n c : Nat) (lim : Int) (l0 : List C) (w : World) (hn12 : n ≤ 12)
    (hi : ∀ w', Below w.heap.size w w' → Calls Try.prog 43 #[.agg #[F, S], .int .i64 0, .int .i64 (n : Int)] w' (SrtP w' base g n c l0)) :
    Calls Try.prog 31 #[D, .int .i64 0, .int .i64 (n : Int), .int .i64 lim] w (SrtP w base g n c l0) := by
  subst hD
  have HI := Lib.hid hi
  have hnI : (n : Int) ≤ 12 := by omega
  clear hi
  go_enter Try.func31, Try.ntmps31
  go_wp2
  refine wp_loop_rounds 1 ?_
  rw [rounds_succ]
  go_wp2_with fail
  refine (HI.out _ (by (repeat (first | with_reducible exact Below.refl _ _ | with_reducible assumption | with_reducible apply bel_alloc | with_reducible apply bel_drew | with_reducible apply bel_drewN | ((with_reducible refine bel_set ?_ ?_); rotate_left; (simp <;> omega)) | (with_reducible refine bel_trans ?_ (by with_reducible assumption)))))).mono ?_
  rintro e w1 ⟨rfl, l', h1, h2, h3, h4, h5⟩
  have HR : Hid (SrtP w base g n c l0 (.returned (.tuple #[])) w1) := ⟨rfl, l', h1, h2, h3, h4, grown_alloc1 h5⟩
  clear h1 h2 h3 h4 h5
  go_wp2_with fail
  (try simp only [Exit.inBlock, Exit.then])
  refine bodyPost_ret (results_none rfl _ _ _) rfl ?_
  exact HR.out
noncomputable def tiS : TypeInfo := (Try.prog.info? 22).get (by kernel_rfl)
noncomputable def tiC : TypeInfo := (Try.prog.info? 29).get (by kernel_rfl)
theorem swapK2 (n : Nat) (h2 : 2 ≤ n) : Lib.swapperK n tiC 25 = 9 := by
  have a : tiC.hasPointers = false := by kernel_rfl
  have b : tiC.bytes = 16 := by kernel_rfl
  have c : (n == 0) = false := by simp; omega
  have d : (n == 1) = false := by simp; omega
  simp [Lib.swapperK, a, b, c, d]
set_option maxRecDepth 100000 in
/-- The library's sort of a slice of one to twelve cells, with the program's test. -/
theorem sortCells (Bs base g n c : Nat) (l0 : List C) (w : World) (ho : w.ownsRow base 29 2 (.slice (some ⟨g, 0, none⟩) n c) n (vC l0)) (hB : w.cell? ⟨Bs, 0, none⟩ = some (.slice (some ⟨g, 0, none⟩) n c)) (hBg : Bs ≠ g) (hn : 1 ≤ n) (hn12 : n ≤ 12) :
    Calls Try.prog 25 #[.iface 22 (.slice (some ⟨g, 0, none⟩) n c), .func (.func 26) #[] #[.pointer (some ⟨Bs, 0, none⟩)]] w (SrtP w base g n c l0) := by
  have hagg : ∀ w, (isAgg 29).run Try.prog w = .ok true w := fun _ => by kernel_rfl
  have fin : ∀ (W : World), W = sliceWorld Try.prog Try.laysGg6_ren 22 (some ⟨g, 0, none⟩) n c w → W.ownsRow base 29 2 (.slice (some ⟨g, 0, none⟩) n c) n (vC l0) ∧ W.cell? ⟨Bs, 0, none⟩ = some (.slice (some ⟨g, 0, none⟩) n c) ∧
      ∀ w', W.grownBy w' (some g) → w.grownBy w' (some g) := by
    intro W hW
    subst hW
    unfold sliceWorld
    exact ⟨(ho.alloc _).alloc _, keep_alloc (keep_alloc hB), fun w' h => grown_alloc1 (grown_alloc1 h)⟩
  obtain ⟨h1, h2, h3⟩ := fin _ rfl
  have hpost : ∀ e w', SrtP (sliceWorld Try.prog Try.laysGg6_ren 22 (some ⟨g, 0, none⟩) n c w) base g n c l0 e w' → e = .returned (.tuple #[]) ∧ (∃ l', l'.length = n ∧ (∀ x, x ∈ l' ↔ x ∈ l0) ∧ l'.Pairwise (fun a b => befC b a = false) ∧ w'.ownsRow base 29 2 (.slice (some ⟨g, 0, none⟩) n c) n (vC l') ∧ w.grownBy w' (some g)) :=
    fun e w' ⟨he, l', a1, a2, a3, a4, a5⟩ => ⟨he, l', a1, a2, a3, a4, h3 _ a5⟩
  by_cases hn2 : 2 ≤ n
  · refine (Any.sort_Slice_of_pdq Try.laysGg6 22 29 tiS tiC (by kernel_rfl) (by kernel_rfl) (by kernel_rfl) (by kernel_rfl) 25 (fun _ => by kernel_rfl) (some ⟨g, 0, none⟩) n c (by omega) 40 (by rw [swapK2 n hn2]; kernel_rfl) (.func 26) #[] #[.pointer (some ⟨Bs, 0, none⟩)] w
      (fun w' => ∃ l', l'.length = n ∧ (∀ x, x ∈ l' ↔ x ∈ l0) ∧ l'.Pairwise (fun a b => befC b a = false) ∧ w'.ownsRow base 29 2 (.slice (some ⟨g, 0, none⟩) n c) n (vC l') ∧ w.grownBy w' (some g)) ?_).mono (fun e w' h => ⟨h.1, h.2⟩)
    have hbd : sliceBound Try.prog 29 tiC 25 (some ⟨g, 0, none⟩) n c = #[.slice (some ⟨g, 0, none⟩) n c, typeHandle Try.prog 29] := by
      unfold sliceBound
      rw [swapK2 n hn2]
      rfl
    rw [hbd]
    have hx : ∀ args W, (callFunc 40 args).run Try.prog W = ((Extern.ReflectliteSwapper.swap false args).run Try.prog W).andThen fun v w' => .ok (.value v) w' := fun args W => run_callFunc_extern Try.func40 (by kernel_rfl) (by kernel_rfl) (by kernel_rfl) (e := Extern.ReflectliteSwapper.swap false) (by kernel_rfl) args W
    refine (pdqSmall _ _ _ rfl base g n c _ l0 _ hn12 fun w' hb => ?_).mono hpost
    exact insSort _ _ Bs base g n c (fun w l i j a b c => swapCells _ false hx hagg base g n _ l i j w a b c) l0 w' (own_keep h1 hb) ((hb.cell (World.block_lt_of_cell? _ _ h2)).trans h2) hBg hn hn12
  · have hn1 : n = 1 := by omega
    subst hn1
    refine (Any.sort_Slice_of_pdq Try.laysGg6 22 29 tiS tiC (by kernel_rfl) (by kernel_rfl) (by kernel_rfl) (by kernel_rfl) 25 (fun _ => by kernel_rfl) (some ⟨g, 0, none⟩) 1 c (by omega) 33 (by kernel_rfl) (.func 26) #[] #[.pointer (some ⟨Bs, 0, none⟩)] w
      (fun w' => ∃ l', l'.length = 1 ∧ (∀ x, x ∈ l' ↔ x ∈ l0) ∧ l'.Pairwise (fun a b => befC b a = false) ∧ w'.ownsRow base 29 2 (.slice (some ⟨g, 0, none⟩) 1 c) 1 (vC l') ∧ w.grownBy w' (some g)) ?_).mono (fun e w' h => ⟨h.1, h.2⟩)
    refine (pdqSmall _ _ _ rfl base g 1 c _ l0 _ (by omega) fun w' hb => ?_).mono hpost
    exact insSort1 _ _ base g 1 c l0 w' (own_keep h1 hb) (Nat.le_refl _)
end Go.Proofs.Ytegnedpikpfjfaa

/- Cells put in order, each once: the program, at one to twelve cells. -/
namespace Go.Proofs.Ytegnedpikpfjfaa
open Go.RowKit
set_option linter.unusedVariables false
attribute [local go_sem ↓] Go.wp_at_zero Go.wp_at_succ

theorem keepG_C (l : List C) (k : Nat) : keepG l k = (k == 0 || !decide (l.getD (k - 1) default = l.getD k default)) := by
  unfold keepG
  generalize l.getD (k - 1) default = a
  generalize l.getD k default = b
  congr 1
theorem ded_fin {l xs : List C} (hp : l.Pairwise (fun a b => befC b a = false)) (hm : ∀ x, x ∈ l ↔ x ∈ xs) : dedG l l.length = sortC xs := dedG_eq befC_sto hp hm
set_option maxRecDepth 100000 in
set_option maxHeartbeats 3200000 in
theorem SortCells_i (A : Option Addr) (n c : Nat) (xs : List C) (w : World) (hr : Rd w A (vC xs)) (hl : xs.length = n) (hn : 1 ≤ n) (hn12 : n ≤ 12) :
    Calls Try.prog 20 #[.slice A n c] w (RetS w 29 2 (vC (sortC xs))) := by
  have HL := Lib.hid hl
  have HR := Lib.hid hr
  clear hl hr
  go_enter Try.func20, Try.ntmps20
  go_wp2_with (at_builtin; go_must (refine app_C _ rfl _ _ rfl w.heap.size none 0 0 [] rfl (own_nil _ _ _ _) _ _ _ xs rfl HR.out HL.out (by omega) (by omega) ?_); intro D c2 w1 ho1 hg1 hat1; simp only [Nat.zero_add, List.nil_append] at ho1; obtain ⟨g, hD, hbg, hgl⟩ := own_at ho1 (by omega); subst hD; have HO1 := Lib.hid ho1; have HB1 := Lib.hid (bel_app (Below.refl w.heap.size w) hg1 (fun g h => by cases h)); have HBX := Lib.hid (Blk.new w1 22 #[.slice (some ⟨g, 0, none⟩) n c2]); clear ho1 hg1 hat1)
  have hwl := HB1.out.size
  refine (sortCells w1.heap.size w.heap.size g n c2 xs _ (HO1.out.alloc _) (HBX.out.cell 0) (by omega) hn hn12).mono ?_
  rintro e w2 ⟨rfl, l, hll, hlm, hlp, ho2, hg2⟩
  have hb2 : Below w.heap.size w w2 := bel_app (A := some ⟨g, 0, none⟩) (bel_alloc HB1.out _) hg2 (fun k e => by simp only [ob, Option.map_some, Option.some.injEq] at e; omega)
  have HV : Hid (dedG l n = sortC xs) := by have := ded_fin hlp hlm; rwa [hll] at this
  have hBX := HBX.out.grown hg2 (fun e => by injection e with e; omega)
  have b0 : w2.cell? ⟨w1.heap.size, 0, none⟩ = some (.slice (some ⟨g, 0, none⟩) n c2) := by simpa using hBX.cell 0
  have bl := hBX.lt
  have HBY := Lib.hid hBX
  have HLL := Lib.hid hll
  have HRL := Lib.hid (Rd.of_own ho2)
  have hg3 := (own_lt ho2 g rfl).2
  have hsz2 := hb2.size
  clear hll hlm hlp ho2 hg2 hBX
  go_wp2_with fail
  go_loopw [15, 4] (fun e15 e4 wr => ∃ (k q cq : Nat) (D : Option Addr), k ≤ n ∧ q ≤ k ∧ e15 = .int .i64 k ∧ e4 = .slice D q cq ∧ wr.ownsRow w2.heap.size 29 2 (.slice D q cq) q (vC (dedG l k)) ∧ Below w2.heap.size w2 wr) (fun e15 _ _ => n - (intOf e15).toNat)
  case atStart => exact ⟨0, 0, 0, none, by omega, by omega, rfl, rfl, own_nil _ _ _ _, Below.refl _ _⟩
  case round =>
    obtain ⟨k, q, cq, D, hk, hq, rfl, rfl, hown, hb⟩ := hrel
    by_cases hlt : k < n
    · have hkl : k < l.length := by rw [HLL.out]; exact hlt
      have hrw := HRL.out.below hb
      obtain ⟨g', off, he, _, a1, a2⟩ := RdC.at_ hrw hkl
      simp only [Option.some.injEq, Addr.mk.injEq, and_true] at he
      obtain ⟨rfl, rfl⟩ := he
      rw [Nat.zero_add] at a1 a2
      have hgd : l.getD k default = l[k] := getD_in l hkl
      have hst : dedG l (k + 1) = dedG l k ++ (if keepG l k then [l.getD k default] else []) := rfl
      obtain ⟨x, hx⟩ : ∃ x, l[k].1 = x := ⟨_, rfl⟩
      obtain ⟨y, hy⟩ : ∃ y, l[k].2 = y := ⟨_, rfl⟩
      have hxy : l[k] = (x, y) := Prod.ext hx hy
      rw [hx] at a1
      rw [hy] at a2
      rw [hxy] at hgd
      rw [hgd] at hst
      have HO := Lib.hid hown
      have hbs := hb.size
      have KEEP : Hid (keepG l k = true → dedG l (k + 1) = dedG l k ++ [(x, y)]) := fun h => by rw [hst, h]; rfl
      have SKIP : Hid (keepG l k = false → dedG l (k + 1) = dedG l k) := fun h => by rw [hst, h]; simp
      have hka : keepG l k = (k == 0 || !decide (l.getD (k - 1) default = (x, y))) := by rw [keepG_C, hgd]
      have HKA := Lib.hid hka
      have hglw : g < wr.heap.size := Nat.lt_of_lt_of_le hg3 hb.size
      have hB := HBY.out.below hb
      have d0 : wr.cell? ⟨w1.heap.size, 0, none⟩ = some (.slice (some ⟨g, 0, none⟩) n c2) := by simpa using hB.cell 0
      have dl := hB.lt
      have hk1 : (0 : Int) ≤ (k : Int) := by omega
      have hk2 : (k : Int) < (n : Int) := by omega
      clear hx hy hxy hst hgd hka hown hB b0 bl
      by_cases hk0 : k = 0
      · have e0 : ((k : Int) == 0) = true := by simp [hk0]
        have HN := Lib.hid (KEEP.out (by rw [HKA.out, hk0]; rfl))
        clear KEEP SKIP HKA hk0
        go_wp2_with fail
        (refine wp_region_below (by kernel_rfl) (by kernel_rfl) ?_; (repeat (first | go_big_quiet_skip | (refine quietV (v := ?_) (by rfl) rfl (fun w' hbw => ?_) ?_; rotate_left; ((try dsimp only at hbw); have hbc := (bcell hbw).1; have hbf := (bcell hbw).2; go_simp; first | done | with_reducible rfl | fail); simp only [List.setIfInBounds_toArray, List.set_cons_zero, List.set_cons_succ]))); refine wpQuiet_nil ?_; intro wq hbq)
        have hbz := hbq.size
        simp only [World.size_alloc] at hbz
        have hCB := (Blk.new wr 29 #[.int .i64 x, .int .i64 y]).below hbq
        have z0 : wq.cell? ⟨wr.heap.size, 0, none⟩ = some (.int .i64 x) := by simpa using hCB.cell 0
        have z1 : wq.cell? ⟨wr.heap.size, 1, none⟩ = some (.int .i64 y) := by simpa using hCB.cell 1
        have zl := hCB.lt
        clear hCB
        go_wp2_with (at_builtin; go_must (refine app_C _ rfl _ _ rfl w2.heap.size _ _ _ _ rfl (own_keep (own_keep (HO.out.alloc _) hbq) (bel_alloc (Below.refl _ _) _)) _ _ _ [(x, y)] rfl (rd_newC _ _ _ _) rfl (by omega) (by simp; omega) ?_); intro D2 cp2 w8 ho8 hg8 hat8; have HO8 := Lib.hid ho8; have HG8 := Lib.hid hg8; clear ho8 hg8 hat8)
        exact ⟨⟨k + 1, q + 1, cp2, D2, by omega, by omega, by go_num, rfl, by rw [HN.out]; exact HO8.out, bel_app (bel_alloc (bel_trans (bel_alloc hb _) hbq) _) HG8.out (fun g' hg1 => ((own_lt HO.out) g' hg1).1)⟩, by simp [intOf]; omega⟩
      · obtain ⟨j, hjk⟩ : ∃ j, k = j + 1 := ⟨k - 1, by omega⟩
        have hjl : j < l.length := by omega
        obtain ⟨g', off', he, _, c1, c3⟩ := RdC.at_ hrw hjl
        simp only [Option.some.injEq, Addr.mk.injEq, and_true] at he
        obtain ⟨rfl, rfl⟩ := he
        rw [Nat.zero_add] at c1 c3
        obtain ⟨p, hp⟩ : ∃ p, l[j].1 = p := ⟨_, rfl⟩
        obtain ⟨r, hr⟩ : ∃ r, l[j].2 = r := ⟨_, rfl⟩
        have hgj : l.getD (k - 1) default = (p, r) := by rw [hjk, Nat.add_sub_cancel, getD_in l hjl]; exact Prod.ext hp hr
        rw [hp] at c1
        rw [hr] at c3
        have e0 : ((k : Int) == 0) = false := by simp; omega
        have hj1 : (k : Int) - 1 = (j : Int) := by omega
        have hj0 : (0 : Int) ≤ (j : Int) := by omega
        have hjw : IntKind.i64.wrap (j : Int) = (j : Int) := Go.IntWalk.i64_in _ (by omega)
        have hjm : (j : Int) < (n : Int) := by omega
        have hkk : (k == 0) = false := by simpa using hk0
        have hkz : ¬ k = 0 := hk0
        have HKK := Lib.hid hkk
        have HGJ := Lib.hid hgj
        clear hp hr hgj hjk hkk hk0
        by_cases hsame : p = x ∧ r = y
        · obtain ⟨rfl, rfl⟩ := hsame
          have HN := Lib.hid (SKIP.out (by rw [HKA.out, HKK.out, HGJ.out]; simp))
          have hne : (p == p && r == r) = true := by simp
          clear KEEP SKIP HKA
          go_wp2_with fail
          (refine wp_region_below (by kernel_rfl) (by kernel_rfl) ?_; (repeat (first | go_big_quiet_skip | (refine quietV (v := ?_) (by rfl) rfl (fun w' hbw => ?_) ?_; rotate_left; ((try dsimp only at hbw); have hbc := (bcell hbw).1; have hbf := (bcell hbw).2; go_simp; first | done | with_reducible rfl | fail); simp only [List.setIfInBounds_toArray, List.set_cons_zero, List.set_cons_succ]))); refine wpQuiet_nil ?_; intro wq hbq)
          go_wp2_with fail
          exact ⟨⟨k + 1, q, cq, D, by omega, by omega, by go_num, rfl, by rw [HN.out]; exact own_keep (HO.out.alloc _) hbq, bel_trans (bel_alloc hb _) hbq⟩, by simp [intOf]; omega⟩
        · have hne : (p == x && r == y) = false := by
            rw [Bool.and_eq_false_iff, beq_eq_false_iff_ne, beq_eq_false_iff_ne]
            by_cases h1 : p = x
            · exact .inr fun h2 => hsame ⟨h1, h2⟩
            · exact .inl h1
          have HN := Lib.hid (KEEP.out (by
            rw [HKA.out, HKK.out, HGJ.out, Bool.false_or, decide_eq_false (fun e => hsame (by injection e with e1 e2; exact ⟨e1, e2⟩))]
            rfl))
          clear KEEP SKIP HKA hsame
          go_wp2_with fail
          (refine wp_region_below (by kernel_rfl) (by kernel_rfl) ?_; (repeat (first | go_big_quiet_skip | (refine quietV (v := ?_) (by rfl) rfl (fun w' hbw => ?_) ?_; rotate_left; ((try dsimp only at hbw); have hbc := (bcell hbw).1; have hbf := (bcell hbw).2; go_simp; first | done | with_reducible rfl | fail); simp only [List.setIfInBounds_toArray, List.set_cons_zero, List.set_cons_succ]))); refine wpQuiet_nil ?_; intro wq hbq)
          have hbz := hbq.size
          simp only [World.size_alloc] at hbz
          have hCB := (Blk.new wr 29 #[.int .i64 x, .int .i64 y]).below hbq
          have z0 : wq.cell? ⟨wr.heap.size, 0, none⟩ = some (.int .i64 x) := by simpa using hCB.cell 0
          have z1 : wq.cell? ⟨wr.heap.size, 1, none⟩ = some (.int .i64 y) := by simpa using hCB.cell 1
          have zl := hCB.lt
          clear hCB
          go_wp2_with (at_builtin; go_must (refine app_C _ rfl _ _ rfl w2.heap.size _ _ _ _ rfl (own_keep (own_keep (HO.out.alloc _) hbq) (bel_alloc (Below.refl _ _) _)) _ _ _ [(x, y)] rfl (rd_newC _ _ _ _) rfl (by omega) (by simp; omega) ?_); intro D2 cp2 w8 ho8 hg8 hat8; have HO8 := Lib.hid ho8; have HG8 := Lib.hid hg8; clear ho8 hg8 hat8)
          exact ⟨⟨k + 1, q + 1, cp2, D2, by omega, by omega, by go_num, rfl, by rw [HN.out]; exact HO8.out, bel_app (bel_alloc (bel_trans (bel_alloc hb _) hbq) _) HG8.out (fun g' hg1 => ((own_lt HO.out) g' hg1).1)⟩, by simp [intOf]; omega⟩
    · obtain rfl : k = n := by omega
      rw [HV.out] at hown
      have HO := Lib.hid (own_base hown hsz2)
      have hk1 : ¬ (k : Int) < (k : Int) := by omega
      clear hown
      go_wp2
      go_ret
      exact ⟨_, _, _, rfl, HO.out, bel_trans hb2 hb⟩
end Go.Proofs.Ytegnedpikpfjfaa

/- Cells moved, moved to their corner, the neighbours of a cell: the program. -/
namespace Go.Proofs.Ytegnedpikpfjfaa
open Go.RowKit
set_option linter.unusedVariables false
attribute [local go_sem ↓] Go.wp_at_zero Go.wp_at_succ

set_option maxHeartbeats 800000 in
theorem moved_i (A : Option Addr) (n c : Nat) (xs : List C) (x y : Int) (w : World) (hr : Rd w A (vC xs)) (hl : xs.length = n) (hn : n ≤ 1048576) (hs : ∀ d ∈ xs, small d) (hx : -1000 ≤ x ∧ x ≤ 1000) (hy : -1000 ≤ y ∧ y ≤ 1000) :
    Calls Try.prog 21 #[.slice A n c, .int .i64 x, .int .i64 y] w (RetS w 29 2 (vC (mv xs x y))) := by
  have HL := Lib.hid hl
  have HS := Lib.hid hs
  obtain ⟨hx1, hx2⟩ := hx
  obtain ⟨hy1, hy2⟩ := hy
  clear hl hs
  go_enter Try.func21, Try.ntmps21
  go_wp2
  go_loopw [12, 7] (fun e12 e7 wr => ∃ (k cq : Nat) (D : Option Addr), k ≤ n ∧ e12 = .int .i64 k ∧ e7 = .slice D k cq ∧ wr.ownsRow w.heap.size 29 2 (.slice D k cq) k (vC (mv (xs.take k) x y)) ∧ Below w.heap.size w wr) (fun e12 _ _ => n - (intOf e12).toNat)
  case atStart => exact ⟨0, 0, none, Nat.zero_le _, rfl, rfl, own_nil _ _ _ _, Below.refl _ _⟩
  case round =>
    obtain ⟨k, cq, D, hk, rfl, rfl, hown, hb⟩ := hrel
    by_cases hlt : k < n
    · have hkl : k < xs.length := by rw [HL.out]; exact hlt
      have hk0 : (0 : Int) ≤ (k : Int) := by omega
      have hk1 : (k : Int) < (n : Int) := by omega
      obtain ⟨g, off, rfl, hg, d1, d2⟩ := RdC.at_ (hr.below hb) hkl
      have hst := mv_take xs x y k hkl
      have hsm := HS.out _ (List.getElem_mem hkl)
      obtain ⟨p, hp⟩ : ∃ p, xs[k].1 = p := ⟨_, rfl⟩
      obtain ⟨q, hq⟩ : ∃ q, xs[k].2 = q := ⟨_, rfl⟩
      unfold small at hsm
      rw [hp, hq] at hsm hst
      rw [hp] at d1
      rw [hq] at d2
      have e1 : IntKind.i64.wrap (p + x) = p + x := Go.IntWalk.i64_in _ (by omega)
      have e2 : IntKind.i64.wrap (q + y) = q + y := Go.IntWalk.i64_in _ (by omega)
      have HST := Lib.hid hst
      have HO := Lib.hid hown
      have hbs := hb.size
      have HRN : Hid (Rd ((wr.alloc (.cells #[.int .i64 p, .int .i64 q] 29)).alloc (.cells #[.int .i64 (p + x), .int .i64 (q + y)] 29)) (some ⟨wr.heap.size + 1, 0, none⟩) (vC [(p + x, q + y)])) := by
        have := rd_newC (wr.alloc (.cells #[.int .i64 p, .int .i64 q] 29)) 29 (p + x) (q + y)
        rw [show (wr.alloc (.cells #[.int .i64 p, .int .i64 q] 29)).heap.size = wr.heap.size + 1 from by simp] at this
        exact this
      clear hst hown hp hq hsm
      go_wp2_with (at_builtin; go_must (refine app_C _ rfl _ _ rfl w.heap.size _ _ _ _ rfl ((HO.out.alloc _).alloc _) _ _ _ [(p + x, q + y)] rfl HRN.out rfl (by omega) (by simp; omega) ?_); intro D2 cp2 w8 ho8 hg8 hat8; have HO8 := Lib.hid ho8; have HG8 := Lib.hid hg8; clear ho8 hg8 hat8)
      exact ⟨⟨k + 1, cp2, D2, by omega, by go_num, rfl, by rw [HST.out]; exact HO8.out, bel_app (bel_alloc (bel_alloc hb _) _) HG8.out (fun g' hg1 => ((own_lt HO.out) g' hg1).1)⟩, by simp [intOf]; omega⟩
    · obtain rfl : k = n := by omega
      rw [List.take_of_length_le (by rw [HL.out]; omega)] at hown
      have HO := Lib.hid hown
      have hk1 : ¬ (k : Int) < (k : Int) := by omega
      clear hown
      go_wp2
      go_ret
      exact ⟨_, _, _, rfl, HO.out, hb⟩
set_option maxHeartbeats 1600000 in
theorem corner_i (A : Option Addr) (n c : Nat) (xs : List C) (w : World) (hr : Rd w A (vC xs)) (hl : xs.length = n) (hn1 : 1 ≤ n) (hn : n ≤ 12) (hs : ∀ d ∈ xs, small d) :
    Calls Try.prog 14 #[.slice A n c] w (RetS w 29 2 (vC (cornI xs))) := by
  have h0 : 0 < xs.length := by omega
  have hsm := minC_small h0 hs
  have hms : ∀ k, k ≤ n → (-1000 ≤ minTo (·.1) xs k ∧ minTo (·.1) xs k ≤ 1000) ∧ (-1000 ≤ minTo (·.2) xs k ∧ minTo (·.2) xs k ≤ 1000) := by
    intro k hk
    obtain ⟨a, ha, e1⟩ := minTo_at (·.1) xs h0 k (by omega)
    obtain ⟨b, hb, e2⟩ := minTo_at (·.2) xs h0 k (by omega)
    have h1 := hs a ha
    have h2 := hs b hb
    unfold small at h1 h2
    rw [e1, e2]
    exact ⟨h1.1, h2.2⟩
  have hV : cornI xs = sortC (mv xs (-(minTo (·.1) xs n)) (-(minTo (·.2) xs n))) := by unfold cornI minC; rw [hl]
  have HV := Lib.hid hV
  have HL := Lib.hid hl
  have HS := Lib.hid hs
  have HMS := Lib.hid hms
  have HR := Lib.hid hr
  obtain ⟨g0, o0, hA, hg0, z1, z2⟩ := RdC.at_ hr h0
  subst hA
  obtain ⟨u, hu⟩ : ∃ u, xs[0].1 = u := ⟨_, rfl⟩
  obtain ⟨v, hv⟩ : ∃ v, xs[0].2 = v := ⟨_, rfl⟩
  rw [hu] at z1
  rw [hv] at z2
  simp only [Nat.zero_mul, Nat.add_zero] at z1 z2
  have H1 : Hid (minTo (·.1) xs 0 = u) := by show (xs.getD 0 default).1 = u; rw [getD_in xs h0, hu]
  have H2 : Hid (minTo (·.2) xs 0 = v) := by show (xs.getD 0 default).2 = v; rw [getD_in xs h0, hv]
  have hn0 : (0 : Int) < (n : Int) := by omega
  have hn00 : 0 < n := by omega
  clear hl hs hms hr hV hu hv hsm
  go_enter Try.func14, Try.ntmps14
  go_wp2_with fail
  (refine wp_region_below (by kernel_rfl) (by kernel_rfl) ?_; (repeat (first | go_big_quiet_skip | (refine quietV (v := ?_) (by rfl) rfl (fun w' hbw => ?_) ?_; rotate_left; ((try dsimp only at hbw); have hbc := (bcell hbw).1; have hbf := (bcell hbw).2; go_simp; first | done | with_reducible rfl | fail); simp only [List.setIfInBounds_toArray, List.set_cons_zero, List.set_cons_succ]))); refine wpQuiet_nil ?_; intro wq hbq)
  clear z1 z2
  go_wp2_with fail
  go_loopw [17, 3, 4] (fun e17 e3 e4 wr => ∃ (k : Nat) (px py : Int), k ≤ n ∧ e17 = .int .i64 k ∧ e3 = .int .i64 px ∧ e4 = .int .i64 py ∧ minTo (·.1) xs k = px ∧ minTo (·.2) xs k = py ∧ Below w.heap.size w wr) (fun e17 _ _ _ => n - (intOf e17).toNat)
  case atStart => exact ⟨0, u, v, Nat.zero_le _, rfl, rfl, rfl, H1.out, H2.out, hbq⟩
  case round =>
    obtain ⟨k, px, py, hk, rfl, rfl, rfl, hpx, hpy, hb⟩ := hrel
    have HPX := Lib.hid hpx
    have HPY := Lib.hid hpy
    clear hpx hpy
    by_cases hlt : k < n
    · have hkl : k < xs.length := by rw [HL.out]; exact hlt
      have hk0 : (0 : Int) ≤ (k : Int) := by omega
      have hk1 : (k : Int) < (n : Int) := by omega
      obtain ⟨g, off, he, hg, d1, d2⟩ := RdC.at_ (HR.out.below hb) hkl
      simp only [Option.some.injEq, Addr.mk.injEq, and_true] at he
      obtain ⟨rfl, rfl⟩ := he
      obtain ⟨p, hp⟩ : ∃ p, xs[k].1 = p := ⟨_, rfl⟩
      obtain ⟨q, hq⟩ : ∃ q, xs[k].2 = q := ⟨_, rfl⟩
      rw [hp] at d1
      rw [hq] at d2
      have S1 : Hid (minTo (·.1) xs (k + 1) = if p < px then p else px) := by show minTo (·.1) xs (k + 1) = _; unfold minTo; rw [getD_in xs hkl, hp, HPX.out]
      have S2 : Hid (minTo (·.2) xs (k + 1) = if q < py then q else py) := by show minTo (·.2) xs (k + 1) = _; unfold minTo; rw [getD_in xs hkl, hq, HPY.out]
      clear hp hq
      by_cases h1 : p < px
      · by_cases h2 : q < py
        · have T1 : Hid (minTo (·.1) xs (k + 1) = p) := by show _ = _; rw [S1.out]; exact if_pos h1
          have T2 : Hid (minTo (·.2) xs (k + 1) = q) := by show _ = _; rw [S2.out]; exact if_pos h2
          go_wp2_with fail
          (refine wp_region_below (by kernel_rfl) (by kernel_rfl) ?_; (repeat (first | go_big_quiet_skip | (refine quietV (v := ?_) (by rfl) rfl (fun w' hbw => ?_) ?_; rotate_left; ((try dsimp only at hbw); have hbc := (bcell hbw).1; have hbf := (bcell hbw).2; go_simp; first | done | with_reducible rfl | fail); simp only [List.setIfInBounds_toArray, List.set_cons_zero, List.set_cons_succ]))); refine wpQuiet_nil ?_; intro wq hbq)
          go_wp2_with fail
          exact ⟨⟨k + 1, p, q, by omega, by go_num, by first | rfl | (simp <;> omega), by first | rfl | (simp <;> omega), T1.out, T2.out, bel_trans (bel_alloc hb _) hbq⟩, by simp [intOf]; omega⟩
        · have T1 : Hid (minTo (·.1) xs (k + 1) = p) := by show _ = _; rw [S1.out]; exact if_pos h1
          have T2 : Hid (minTo (·.2) xs (k + 1) = py) := by show _ = _; rw [S2.out]; exact if_neg h2
          go_wp2_with fail
          (refine wp_region_below (by kernel_rfl) (by kernel_rfl) ?_; (repeat (first | go_big_quiet_skip | (refine quietV (v := ?_) (by rfl) rfl (fun w' hbw => ?_) ?_; rotate_left; ((try dsimp only at hbw); have hbc := (bcell hbw).1; have hbf := (bcell hbw).2; go_simp; first | done | with_reducible rfl | fail); simp only [List.setIfInBounds_toArray, List.set_cons_zero, List.set_cons_succ]))); refine wpQuiet_nil ?_; intro wq hbq)
          go_wp2_with fail
          exact ⟨⟨k + 1, p, py, by omega, by go_num, by first | rfl | (simp <;> omega), by first | rfl | (simp <;> omega), T1.out, T2.out, bel_trans (bel_alloc hb _) hbq⟩, by simp [intOf]; omega⟩
      · by_cases h2 : q < py
        · have T1 : Hid (minTo (·.1) xs (k + 1) = px) := by show _ = _; rw [S1.out]; exact if_neg h1
          have T2 : Hid (minTo (·.2) xs (k + 1) = q) := by show _ = _; rw [S2.out]; exact if_pos h2
          go_wp2_with fail
          (refine wp_region_below (by kernel_rfl) (by kernel_rfl) ?_; (repeat (first | go_big_quiet_skip | (refine quietV (v := ?_) (by rfl) rfl (fun w' hbw => ?_) ?_; rotate_left; ((try dsimp only at hbw); have hbc := (bcell hbw).1; have hbf := (bcell hbw).2; go_simp; first | done | with_reducible rfl | fail); simp only [List.setIfInBounds_toArray, List.set_cons_zero, List.set_cons_succ]))); refine wpQuiet_nil ?_; intro wq hbq)
          go_wp2_with fail
          exact ⟨⟨k + 1, px, q, by omega, by go_num, by first | rfl | (simp <;> omega), by first | rfl | (simp <;> omega), T1.out, T2.out, bel_trans (bel_alloc hb _) hbq⟩, by simp [intOf]; omega⟩
        · have T1 : Hid (minTo (·.1) xs (k + 1) = px) := by show _ = _; rw [S1.out]; exact if_neg h1
          have T2 : Hid (minTo (·.2) xs (k + 1) = py) := by show _ = _; rw [S2.out]; exact if_neg h2
          go_wp2_with fail
          (refine wp_region_below (by kernel_rfl) (by kernel_rfl) ?_; (repeat (first | go_big_quiet_skip | (refine quietV (v := ?_) (by rfl) rfl (fun w' hbw => ?_) ?_; rotate_left; ((try dsimp only at hbw); have hbc := (bcell hbw).1; have hbf := (bcell hbw).2; go_simp; first | done | with_reducible rfl | fail); simp only [List.setIfInBounds_toArray, List.set_cons_zero, List.set_cons_succ]))); refine wpQuiet_nil ?_; intro wq hbq)
          go_wp2_with fail
          exact ⟨⟨k + 1, px, py, by omega, by go_num, by first | rfl | (simp <;> omega), by first | rfl | (simp <;> omega), T1.out, T2.out, bel_trans (bel_alloc hb _) hbq⟩, by simp [intOf]; omega⟩
    · obtain rfl : k = n := by omega
      have hk1 : ¬ (k : Int) < (k : Int) := by omega
      have hms := HMS.out k (Nat.le_refl _)
      rw [HPX.out, HPY.out] at hms
      obtain ⟨⟨q1, q2⟩, q3, q4⟩ := hms
      have e1 : IntKind.i64.wrap (-px) = -px := Go.IntWalk.i64_in _ (by omega)
      have e2 : IntKind.i64.wrap (-py) = -py := Go.IntWalk.i64_in _ (by omega)
      go_wp2_with fail
      refine (moved_i _ k c xs (-px) (-py) _ (HR.out.below hb) HL.out (by omega) HS.out (by omega) (by omega)).mono ?_
      rintro e w1 ⟨D, m, cD, rfl, ho, hb1⟩
      have hm : m = k := by have := own_len ho; rw [vC_length, mv_len, HL.out] at this; omega
      subst hm
      have HO := Lib.hid ho
      clear ho
      go_wp2_with fail
      refine (SortCells_i D m cD _ _ (Rd.of_own HO.out) (by rw [mv_len]; exact HL.out) hn1 hn).mono ?_
      rintro e w2 ⟨E, m2, cE, rfl, ho2, hb2⟩
      rw [← HPX.out, ← HPY.out, ← HV.out] at ho2
      have HO2 := Lib.hid (own_base (base' := w.heap.size) ho2 (by have := hb.size; have := hb1.size; omega))
      clear ho2
      go_wp2_with fail
      go_ret
      exact ⟨_, _, _, rfl, HO2.out, bel_trans (bel_trans hb hb1) hb2⟩
end Go.Proofs.Ytegnedpikpfjfaa

/- Cells put in order by the library at any length: the row as an array. -/
namespace Go.Proofs.Ytegnedpikpfjfaa
open Go.RowKit Go.Shelf
set_option linter.unusedVariables false
attribute [local go_sem ↓] Go.wp_at_zero Go.wp_at_succ

theorem arr_get (d : Array C) (i : Nat) : d[i]! = d.toList.getD i default := by
  rw [List.getD_eq_getElem?_getD, Array.getElem?_toList]
  rw [getElem!_def]
  cases d[i]? <;> rfl
theorem swp_list (d : Array C) (i j : Nat) : (Sort.swp d i j).toList = swL d.toList i j := by
  unfold Sort.swp swL
  rw [arr_get, arr_get]
  simp
theorem swp_size (d : Array C) (i j : Nat) : (Sort.swp d i j).size = d.size := by unfold Sort.swp; simp
/-- The row holds the cells d; the test's own variable holds the row. -/
structure SA (w : World) (base g n c B : Nat) (d : Array C) : Prop where
  own : w.ownsRow base 29 2 (.slice (some ⟨g, 0, none⟩) n c) n (vC d.toList)
  box : w.cell? ⟨B, 0, none⟩ = some (.slice (some ⟨g, 0, none⟩) n c)
  ne : B ≠ g
section
variable {w w' : World} {base g n c B : Nat} {d : Array C}
theorem SA.lt (h : SA w base g n c B d) : base ≤ g ∧ g < w.heap.size := own_lt h.own g rfl
theorem SA.size (h : SA w base g n c B d) : d.size = n := by have := own_len h.own; rw [vC_length, Array.length_toList] at this; omega
theorem SA.keep (h : SA w base g n c B d) (hb : Below w.heap.size w w') : SA w' base g n c B d := ⟨own_keep h.own hb, keep_below hb h.box, h.ne⟩
theorem lessA (h : SA w base g n c B d) {i j : Nat} (hi : i < n) (hj : j < n) (b : Bool) (hb : b = befC d[i]! d[j]!) :
    Calls Try.prog 26 #[.int .i64 (i : Int), .int .i64 (j : Int), .pointer (some ⟨B, 0, none⟩)] w (Ret w (.bool b)) :=
  lessCells B base g n c d.toList i j w h.own h.box hi hj b (by rw [hb, arr_get, arr_get])
theorem swA {sf : Nat} {th : Value} (hsw : Swaps sf th base g n c) (h : SA w base g n c B d) {i j : Nat} (hi : i < n) (hj : j < n) :
    ∃ w', (callFunc sf #[.int .i64 (i : Int), .int .i64 (j : Int), .slice (some ⟨g, 0, none⟩) n c, th]).run Try.prog w = .ok (.value (.tuple #[])) w' ∧ SA w' base g n c B (Sort.swp d i j) ∧ ∀ a, World.grownBy a w (some g) → World.grownBy a w' (some g) := by
  obtain ⟨w', h1, h2, h3⟩ := hsw w d.toList i j h.own hi hj
  refine ⟨w', h1, ⟨by rw [swp_list]; exact h2, keep_grown (h3 w (World.grownBy.refl _ _)) h.box (fun e => h.ne (by injection e)), h.ne⟩, h3⟩
end
/-- What a step of the sort leaves. -/
def AP (w : World) (base g n c B : Nat) (R : Array C → Prop) (e : Ending) (w' : World) : Prop := e = .returned (.tuple #[]) ∧ ∃ d', SA w' base g n c B d' ∧ w.grownBy w' (some g) ∧ R d'
/-- The same beside a result. -/
def APv (w : World) (base g n c B : Nat) (R : Value → Array C → Prop) (e : Ending) (w' : World) : Prop := ∃ v d', e = .returned v ∧ SA w' base g n c B d' ∧ w.grownBy w' (some g) ∧ R v d'
end Go.Proofs.Ytegnedpikpfjfaa

/- Cells put in order by the library: the insertion sort on a part of the row. -/
namespace Go.Proofs.Ytegnedpikpfjfaa
open Go.RowKit Go.Shelf
set_option linter.unusedVariables false
attribute [local go_sem ↓] Go.wp_at_zero Go.wp_at_succ

theorem insInner_go (a : Nat) {j p : Nat} (d : Array C) (hj : j = p + 1) (ha : a < j) (hl : befC d[j]! d[p]! = true) : Sort.insInner befC a j d = Sort.insInner befC a p (Sort.swp d j p) := by
  subst hj
  rw [Sort.insInner, if_pos (by rw [hl]; simp; omega)]
theorem insInner_stop (a : Nat) {j p : Nat} (d : Array C) (hj : j = p + 1) (hl : befC d[j]! d[p]! = false) : Sort.insInner befC a j d = d := by
  subst hj
  rw [Sort.insInner, if_neg (by rw [hl]; simp)]
theorem insInner_end (a : Nat) {j : Nat} (d : Array C) (h : j ≤ a) : Sort.insInner befC a j d = d := by
  cases j with
  | zero => rfl
  | succ j => rw [Sort.insInner, if_neg (by simp; omega)]
theorem insOuter_go (a b i : Nat) (d : Array C) (h : i < b) : Sort.insOuter befC a b i d = Sort.insOuter befC a b (i + 1) (Sort.insInner befC a i d) := by rw [Sort.insOuter, if_pos h]
theorem insOuter_end (a b i : Nat) (d : Array C) (h : ¬ i < b) : Sort.insOuter befC a b i d = d := by rw [Sort.insOuter, if_neg h]
set_option maxRecDepth 100000 in
set_option maxHeartbeats 6400000 in
theorem insA (sf : Nat) (th : Value) (base g n c B : Nat) (hsw : Swaps sf th base g n c) (a b : Nat) (d0 : Array C) (w : World) (h : SA w base g n c B d0) (hab : a ≤ b) (hb : b ≤ n) (hn : n ≤ 1099511627776) :
    Calls Try.prog 43 #[.agg #[.func (.func 26) #[] #[.pointer (some ⟨B, 0, none⟩)], .func (.func sf) #[] #[.slice (some ⟨g, 0, none⟩) n c, th]], .int .i64 (a : Int), .int .i64 (b : Int)] w (AP w base g n c B fun d' => d' = Sort.insertionSort befC d0 a b) := by
  have hgl := h.lt.2
  have hneg : some w.heap.size ≠ some g := fun e => by injection e with e; omega
  have HS := Lib.hid (h.keep (bel_alloc (Below.refl _ _) (.cells #[.func (.func 26) #[] #[.pointer (some ⟨B, 0, none⟩)], .func (.func sf) #[] #[.slice (some ⟨g, 0, none⟩) n c, th]] 53)))
  have HSW := Lib.hid hsw
  have HBB := Lib.hid (Blk.new w 53 #[.func (.func 26) #[] #[.pointer (some ⟨B, 0, none⟩)], .func (.func sf) #[] #[.slice (some ⟨g, 0, none⟩) n c, th]])
  obtain ⟨W0, hW0⟩ : ∃ W0, (w.alloc (.cells #[.func (.func 26) #[] #[.pointer (some ⟨B, 0, none⟩)], .func (.func sf) #[] #[.slice (some ⟨g, 0, none⟩) n c, th]] 53)) = W0 := ⟨_, rfl⟩
  rw [hW0] at HS HBB
  have hw0 : w.grownBy W0 (some g) := by rw [← hW0]; exact grown_alloc1 (World.grownBy.refl _ _)
  have HW0 := Lib.hid hW0
  have HG0 := Lib.hid hw0
  clear hsw h hW0 hw0
  go_enter Try.func43, Try.ntmps43
  go_wp2
  rw [HW0.out]
  go_loopw [6] (fun e6 wr => ∃ (i : Nat) (d : Array C), a + 1 ≤ i ∧ (i ≤ b ∨ i = a + 1) ∧ e6 = .int .i64 i ∧ Sort.insOuter befC a b i d = Sort.insOuter befC a b (a + 1) d0 ∧ SA wr base g n c B d ∧ W0.grownBy wr (some g)) (fun e6 _ => b - (intOf e6).toNat)
  case atStart => exact ⟨a + 1, d0, Nat.le_refl _, .inr rfl, by go_num, rfl, HS.out, World.grownBy.refl _ _⟩
  case round =>
    obtain ⟨i, d1, hi1, hin, rfl, hst, hown, hg⟩ := hrel
    have HST := Lib.hid hst
    have HOW := Lib.hid hown
    have HG := Lib.hid hg
    clear hst hown hg
    by_cases hlt : i < b
    · have hiI : (i : Int) < (b : Int) := by omega
      clear hin
      go_wp2
      go_loopw [7] (fun e7 wr => ∃ (j : Nat) (d : Array C), a ≤ j ∧ j ≤ i ∧ e7 = .int .i64 j ∧ Sort.insInner befC a j d = Sort.insInner befC a i d1 ∧ SA wr base g n c B d ∧ W0.grownBy wr (some g)) (fun e7 _ => (intOf e7).toNat)
      case atStart => exact ⟨i, d1, by omega, Nat.le_refl _, rfl, rfl, HOW.out, HG.out⟩
      case round =>
        clear HOW HG
        obtain ⟨j, d, haj, hji, rfl, hin, hown, hg⟩ := hrel
        have HIN := Lib.hid hin
        have HOW := Lib.hid hown
        have HG := Lib.hid hg
        clear hin hown hg
        by_cases hj0 : a < j
        · obtain ⟨p, hp⟩ : ∃ p, j = p + 1 := ⟨j - 1, by omega⟩
          have hjI : (j : Int) > (a : Int) := by omega
          have hpI : (j : Int) - 1 = (p : Int) := by omega
          have hpw : IntKind.i64.wrap (p : Int) = (p : Int) := Go.IntWalk.i64_in _ (by omega)
          have HP := Lib.hid hp
          have hBB := HBB.out.grown HG.out hneg
          have b0 : wr.cell? ⟨w.heap.size, 0, none⟩ = some (.func (.func 26) #[] #[.pointer (some ⟨B, 0, none⟩)]) := by simpa using hBB.cell 0
          have b1 : wr.cell? ⟨w.heap.size, 1, none⟩ = some (.func (.func sf) #[] #[.slice (some ⟨g, 0, none⟩) n c, th]) := by simpa using hBB.cell 1
          have bl := hBB.lt
          have HBW := Lib.hid hBB
          clear hBB
          have hjn : j < n := by omega
          have hpn : p < n := by omega
          have hap : a ≤ p := by omega
          clear hp
          cases hbf : befC d[j]! d[p]! with
          | true =>
            have HIN2 : Hid (Sort.insInner befC a p (Sort.swp d j p) = Sort.insInner befC a i d1) := (insInner_go a d HP.out hj0 hbf).symm.trans HIN.out
            have HBF := Lib.hid hbf
            clear hbf
            go_wp2_with fail
            refine (lessA HOW.out hjn hpn true HBF.out.symm).mono ?_
            rintro e w1 ⟨rfl, hb1⟩
            have hBB1 := HBW.out.below hb1
            have c1 : w1.cell? ⟨w.heap.size, 1, none⟩ = some (.func (.func sf) #[] #[.slice (some ⟨g, 0, none⟩) n c, th]) := by simpa using hBB1.cell 1
            have cl := hBB1.lt
            obtain ⟨w2, hrun, ho2, hg2⟩ := swA HSW.out (HOW.out.keep hb1) hjn hpn
            have HO2 := Lib.hid ho2
            have HG2 := Lib.hid (hg2 _ (grown_below HG.out hb1))
            clear hBB1 ho2 hg2 b0 b1 bl
            go_wp2_with fail
            exact ⟨⟨p, Sort.swp d j p, hap, by have := HP.out; omega, rfl, HIN2.out, HO2.out, HG2.out⟩, by have := HP.out; simp [intOf]; omega⟩
          | false =>
            have HO2 : Hid (Sort.insOuter befC a b (i + 1) d = Sort.insOuter befC a b (a + 1) d0) := by
              show _ = _
              rw [← HST.out, insOuter_go a b i d1 hlt, ← HIN.out, insInner_stop a d HP.out hbf]
            have HBF := Lib.hid hbf
            clear hbf
            go_wp2_with fail
            refine (lessA HOW.out hjn hpn false HBF.out.symm).mono ?_
            rintro e w1 ⟨rfl, hb1⟩
            go_wp2_with fail
            exact ⟨⟨i + 1, d, by omega, .inl (by omega), by go_num, HO2.out, HOW.out.keep hb1, grown_below HG.out hb1⟩, by simp [intOf]; omega⟩
        · have hja : ¬ (j : Int) > (a : Int) := by omega
          have HO2 : Hid (Sort.insOuter befC a b (i + 1) d = Sort.insOuter befC a b (a + 1) d0) := by
            show _ = _
            rw [← HST.out, insOuter_go a b i d1 hlt, ← HIN.out, insInner_end a d (by omega)]
          clear hj0
          go_wp2_with fail
          exact ⟨⟨i + 1, d, by omega, .inl (by omega), by go_num, HO2.out, HOW.out, HG.out⟩, by simp [intOf]; omega⟩
    · have hiI : ¬ (i : Int) < (b : Int) := by omega
      have HE : Hid (d1 = Sort.insertionSort befC d0 a b) := by
        show _ = _
        unfold Sort.insertionSort
        rw [← HST.out, insOuter_end a b i d1 hlt]
      clear hin
      go_wp2
      go_end0
      exact ⟨rfl, d1, HOW.out, HG0.out.trans HG.out, HE.out⟩
end Go.Proofs.Ytegnedpikpfjfaa

/- Cells put in order by the library: the heap. -/
namespace Go.Proofs.Ytegnedpikpfjfaa
open Go.RowKit Go.Shelf
set_option linter.unusedVariables false
attribute [local go_sem ↓] Go.wp_at_zero Go.wp_at_succ

/-- Which child is the greater. -/
def Chd (d : Array C) (hi f r ch : Nat) : Prop := (ch = 2 * r + 2 ∧ 2 * r + 2 < hi ∧ befC d[f + (2 * r + 1)]! d[f + (2 * r + 1) + 1]! = true) ∨ (ch = 2 * r + 1 ∧ ¬ (2 * r + 2 < hi ∧ befC d[f + (2 * r + 1)]! d[f + (2 * r + 1) + 1]! = true))
theorem sift_end {d : Array C} {hi f r : Nat} (h : 2 * r + 1 ≥ hi) : Sort.siftDown befC hi f r d = d := by rw [Sort.siftDown, dif_pos h]
theorem sift_stop {d : Array C} {hi f r ch : Nat} (h : ¬ 2 * r + 1 ≥ hi) (hc : Chd d hi f r ch) (hl : befC d[f + r]! d[f + ch]! = false) : Sort.siftDown befC hi f r d = d := by
  rw [Sort.siftDown, dif_neg h]
  rcases hc with ⟨rfl, h2, h3⟩ | ⟨rfl, h2⟩
  · rw [if_pos (by rw [h3]; simp; omega), if_pos (by rw [hl]; rfl)]
  · rw [if_neg (by simp only [Bool.and_eq_true, decide_eq_true_eq]; exact h2), if_pos (by rw [hl]; rfl)]
theorem sift_go {d : Array C} {hi f r ch : Nat} (h : ¬ 2 * r + 1 ≥ hi) (hc : Chd d hi f r ch) (hl : befC d[f + r]! d[f + ch]! = true) : Sort.siftDown befC hi f r d = Sort.siftDown befC hi f ch (Sort.swp d (f + r) (f + ch)) := by
  rw [Sort.siftDown, dif_neg h]
  rcases hc with ⟨rfl, h2, h3⟩ | ⟨rfl, h2⟩
  · rw [if_pos (by rw [h3]; simp; omega), if_neg (by rw [hl]; simp), dif_pos h2]
  · rw [if_neg (by simp only [Bool.and_eq_true, decide_eq_true_eq]; exact h2), if_neg (by rw [hl]; simp)]
set_option maxRecDepth 100000 in
set_option maxHeartbeats 6400000 in
theorem sftA (sf : Nat) (th : Value) (base g n c B : Nat) (hsw : Swaps sf th base g n c) (lo hi f : Nat) (d0 : Array C) (w : World) (h : SA w base g n c B d0) (hf : f + hi ≤ n) (hlo : lo ≤ n) (hn : n ≤ 1099511627776) :
    Calls Try.prog 51 #[.agg #[.func (.func 26) #[] #[.pointer (some ⟨B, 0, none⟩)], .func (.func sf) #[] #[.slice (some ⟨g, 0, none⟩) n c, th]], .int .i64 (lo : Int), .int .i64 (hi : Int), .int .i64 (f : Int)] w (AP w base g n c B fun d' => d' = Sort.siftDown befC hi f lo d0) := by
  have hgl := h.lt.2
  have hneg : some w.heap.size ≠ some g := fun e => by injection e with e; omega
  have HS := Lib.hid (h.keep (bel_alloc (Below.refl _ _) (.cells #[.func (.func 26) #[] #[.pointer (some ⟨B, 0, none⟩)], .func (.func sf) #[] #[.slice (some ⟨g, 0, none⟩) n c, th]] 53)))
  have HSW := Lib.hid hsw
  have HBB := Lib.hid (Blk.new w 53 #[.func (.func 26) #[] #[.pointer (some ⟨B, 0, none⟩)], .func (.func sf) #[] #[.slice (some ⟨g, 0, none⟩) n c, th]])
  obtain ⟨W0, hW0⟩ : ∃ W0, (w.alloc (.cells #[.func (.func 26) #[] #[.pointer (some ⟨B, 0, none⟩)], .func (.func sf) #[] #[.slice (some ⟨g, 0, none⟩) n c, th]] 53)) = W0 := ⟨_, rfl⟩
  rw [hW0] at HS HBB
  have hw0 : w.grownBy W0 (some g) := by rw [← hW0]; exact grown_alloc1 (World.grownBy.refl _ _)
  have HW0 := Lib.hid hW0
  have HG0 := Lib.hid hw0
  clear hsw h hW0 hw0
  go_enter Try.func51, Try.ntmps51
  go_wp2_with fail
  rw [HW0.out]
  go_loopw [8] (fun e8 wr => ∃ (r : Nat) (d : Array C), r ≤ n ∧ e8 = .int .i64 r ∧ Sort.siftDown befC hi f r d = Sort.siftDown befC hi f lo d0 ∧ SA wr base g n c B d ∧ W0.grownBy wr (some g)) (fun e8 _ => hi - (intOf e8).toNat)
  case atStart => exact ⟨lo, d0, hlo, rfl, rfl, HS.out, World.grownBy.refl _ _⟩
  case round =>
    obtain ⟨r, d, hrn, rfl, hsd, hown, hg⟩ := hrel
    have HSD := Lib.hid hsd
    have HOW := Lib.hid hown
    have HG := Lib.hid hg
    clear hsd hown hg
    obtain ⟨r2, hr2⟩ : ∃ r2, 2 * r = r2 := ⟨_, rfl⟩
    have hr2I : 2 * (r : Int) = (r2 : Int) := by omega
    have hr2w : IntKind.i64.wrap (r2 : Int) = (r2 : Int) := Go.IntWalk.i64_in _ (by omega)
    obtain ⟨x, hx⟩ : ∃ x, r2 + 1 = x := ⟨_, rfl⟩
    have hxI : (r2 : Int) + 1 = (x : Int) := by omega
    have hxw : IntKind.i64.wrap (x : Int) = (x : Int) := Go.IntWalk.i64_in _ (by omega)
    have hBB := HBB.out.grown HG.out hneg
    have b0 : wr.cell? ⟨w.heap.size, 0, none⟩ = some (.func (.func 26) #[] #[.pointer (some ⟨B, 0, none⟩)]) := by simpa using hBB.cell 0
    have b1 : wr.cell? ⟨w.heap.size, 1, none⟩ = some (.func (.func sf) #[] #[.slice (some ⟨g, 0, none⟩) n c, th]) := by simpa using hBB.cell 1
    have bl := hBB.lt
    have HBW := Lib.hid hBB
    clear hBB
    have hxe : 2 * r + 1 = x := by omega
    by_cases hge : x ≥ hi
    · have hgeI : (x : Int) ≥ (hi : Int) := by omega
      have HE : Hid (Sort.siftDown befC hi f lo d0 = d) := by show _ = _; rw [← HSD.out]; exact sift_end (by omega)
      clear hr2 hx hxe
      go_wp2_with fail
      go_end0
      exact ⟨rfl, d, HOW.out, HG0.out.trans HG.out, HE.out.symm⟩
    · have hgeI : ¬ (x : Int) ≥ (hi : Int) := by omega
      have HGE : Hid (¬ 2 * r + 1 ≥ hi) := by show ¬ _; omega
      obtain ⟨y, hy⟩ : ∃ y, x + 1 = y := ⟨_, rfl⟩
      have hyI : (x : Int) + 1 = (y : Int) := by omega
      have hyw : IntKind.i64.wrap (y : Int) = (y : Int) := Go.IntWalk.i64_in _ (by omega)
      obtain ⟨fr, hfr⟩ : ∃ fr, f + r = fr := ⟨_, rfl⟩
      have hfrI : (f : Int) + (r : Int) = (fr : Int) := by omega
      have hfrw : IntKind.i64.wrap (fr : Int) = (fr : Int) := Go.IntWalk.i64_in _ (by omega)
      obtain ⟨fx, hfx⟩ : ∃ fx, f + x = fx := ⟨_, rfl⟩
      have hfxI : (f : Int) + (x : Int) = (fx : Int) := by omega
      have hfxw : IntKind.i64.wrap (fx : Int) = (fx : Int) := Go.IntWalk.i64_in _ (by omega)
      obtain ⟨fy, hfy⟩ : ∃ fy, fx + 1 = fy := ⟨_, rfl⟩
      have hfyI : (fx : Int) + 1 = (fy : Int) := by omega
      have hfyw : IntKind.i64.wrap (fy : Int) = (fy : Int) := Go.IntWalk.i64_in _ (by omega)
      have hfyJ : (f : Int) + (y : Int) = (fy : Int) := by omega
      have HFR : Hid (f + r = fr) := by show _ = _; omega
      have Hfx : Hid (f + x = fx) := by show _ = _; omega
      have Hfy : Hid (f + y = fy) := by show _ = _; omega
      have hfrn : fr < n := by omega
      have hfxn : fx < n := by omega
      have hxr : r < x := by omega
      have hyr : r < y := by omega
      have hxhi : x < hi := by omega
      have hyn : y ≤ n := by omega
      have hxn : x ≤ n := by omega
      have hye : 2 * r + 2 = y := by omega
      have hfx1 : f + (2 * r + 1) = fx := by omega
      have hfy1 : f + (2 * r + 1) + 1 = fy := by omega
      have hcase : (y < hi → befC d[fx]! d[fy]! = true → Chd d hi f r y) ∧ (¬ (y < hi ∧ befC d[fx]! d[fy]! = true) → Chd d hi f r x) := by
        unfold Chd
        rw [hfy1, hfx1, hye, hxe]
        exact ⟨fun h1 h2 => .inl ⟨rfl, h1, h2⟩, fun h => .inr ⟨rfl, h⟩⟩
      have HCS := Lib.hid hcase
      clear hr2 hx hy hfr hfx hfy hxe hye hfx1 hfy1 hcase
      by_cases hyh : y < hi
      · have hyI : (y : Int) < (hi : Int) := by omega
        have hfyn : fy < n := by have := Hfy.out; omega
        cases hcx : befC d[fx]! d[fy]! with
        | true =>
          have HCH := Lib.hid (HCS.out.1 hyh hcx)
          have HCX := Lib.hid hcx
          clear hcx
          go_wp2_with fail
          refine (lessA HOW.out hfxn hfyn true HCX.out.symm).mono ?_
          rintro e w4 ⟨rfl, hb4⟩
          have HOW := Lib.hid (HOW.out.keep hb4)
          have HG := Lib.hid (grown_below HG.out hb4)
          have HBW := Lib.hid (HBW.out.below hb4)
          clear b0 b1 bl
          have b0 : w4.cell? ⟨w.heap.size, 0, none⟩ = some (.func (.func 26) #[] #[.pointer (some ⟨B, 0, none⟩)]) := by simpa using HBW.out.cell 0
          have b1 : w4.cell? ⟨w.heap.size, 1, none⟩ = some (.func (.func sf) #[] #[.slice (some ⟨g, 0, none⟩) n c, th]) := by simpa using HBW.out.cell 1
          have bl := HBW.out.lt
          clear hb4
          cases hl : befC d[fr]! d[fy]! with
          | false =>
            have HE : Hid (Sort.siftDown befC hi f lo d0 = d) := by show _ = _; rw [← HSD.out]; exact sift_stop HGE.out HCH.out (by rw [HFR.out, Hfy.out]; exact hl)
            have HLL := Lib.hid hl
            clear hl
            go_wp2_with fail
            refine (lessA HOW.out hfrn hfyn false HLL.out.symm).mono ?_
            rintro e w5 ⟨rfl, hb5⟩
            go_wp2_with fail
            (try simp only [Exit.inBlock, Exit.then])
            refine bodyPost_ret (results_none rfl _ _ _) rfl ?_
            exact ⟨rfl, d, HOW.out.keep hb5, HG0.out.trans (grown_below HG.out hb5), HE.out.symm⟩
          | true =>
            have HE : Hid (Sort.siftDown befC hi f y (Sort.swp d fr fy) = Sort.siftDown befC hi f lo d0) := by
              show _ = _
              have h := sift_go HGE.out HCH.out (by rw [HFR.out, Hfy.out]; exact hl)
              rw [HFR.out, Hfy.out] at h
              rw [← HSD.out, h]
            have HLL := Lib.hid hl
            clear hl
            go_wp2_with fail
            refine (lessA HOW.out hfrn hfyn true HLL.out.symm).mono ?_
            rintro e w5 ⟨rfl, hb5⟩
            have hBB5 := HBW.out.below hb5
            have c1 : w5.cell? ⟨w.heap.size, 1, none⟩ = some (.func (.func sf) #[] #[.slice (some ⟨g, 0, none⟩) n c, th]) := by simpa using hBB5.cell 1
            have cl := hBB5.lt
            obtain ⟨w6, hrun, ho6, hg6⟩ := swA HSW.out (HOW.out.keep hb5) hfrn hfyn
            have HO6 := Lib.hid ho6
            have HG6 := Lib.hid (hg6 _ (grown_below HG.out hb5))
            clear hBB5 ho6 hg6 b0 b1 bl
            go_wp2_with fail
            exact ⟨⟨y, Sort.swp d fr fy, by omega, rfl, HE.out, HO6.out, HG6.out⟩, by have := HGE.out; simp [intOf]; omega⟩
        | false =>
          have HCH := Lib.hid (HCS.out.2 (fun h => by rw [hcx] at h; exact absurd h.2 (by decide)))
          have HCX := Lib.hid hcx
          clear hcx
          go_wp2_with fail
          refine (lessA HOW.out hfxn hfyn false HCX.out.symm).mono ?_
          rintro e w4 ⟨rfl, hb4⟩
          have HOW := Lib.hid (HOW.out.keep hb4)
          have HG := Lib.hid (grown_below HG.out hb4)
          have HBW := Lib.hid (HBW.out.below hb4)
          clear b0 b1 bl
          have b0 : w4.cell? ⟨w.heap.size, 0, none⟩ = some (.func (.func 26) #[] #[.pointer (some ⟨B, 0, none⟩)]) := by simpa using HBW.out.cell 0
          have b1 : w4.cell? ⟨w.heap.size, 1, none⟩ = some (.func (.func sf) #[] #[.slice (some ⟨g, 0, none⟩) n c, th]) := by simpa using HBW.out.cell 1
          have bl := HBW.out.lt
          clear hb4
          cases hl : befC d[fr]! d[fx]! with
          | false =>
            have HE : Hid (Sort.siftDown befC hi f lo d0 = d) := by show _ = _; rw [← HSD.out]; exact sift_stop HGE.out HCH.out (by rw [HFR.out, Hfx.out]; exact hl)
            have HLL := Lib.hid hl
            clear hl
            go_wp2_with fail
            refine (lessA HOW.out hfrn hfxn false HLL.out.symm).mono ?_
            rintro e w5 ⟨rfl, hb5⟩
            go_wp2_with fail
            (try simp only [Exit.inBlock, Exit.then])
            refine bodyPost_ret (results_none rfl _ _ _) rfl ?_
            exact ⟨rfl, d, HOW.out.keep hb5, HG0.out.trans (grown_below HG.out hb5), HE.out.symm⟩
          | true =>
            have HE : Hid (Sort.siftDown befC hi f x (Sort.swp d fr fx) = Sort.siftDown befC hi f lo d0) := by
              show _ = _
              have h := sift_go HGE.out HCH.out (by rw [HFR.out, Hfx.out]; exact hl)
              rw [HFR.out, Hfx.out] at h
              rw [← HSD.out, h]
            have HLL := Lib.hid hl
            clear hl
            go_wp2_with fail
            refine (lessA HOW.out hfrn hfxn true HLL.out.symm).mono ?_
            rintro e w5 ⟨rfl, hb5⟩
            have hBB5 := HBW.out.below hb5
            have c1 : w5.cell? ⟨w.heap.size, 1, none⟩ = some (.func (.func sf) #[] #[.slice (some ⟨g, 0, none⟩) n c, th]) := by simpa using hBB5.cell 1
            have cl := hBB5.lt
            obtain ⟨w6, hrun, ho6, hg6⟩ := swA HSW.out (HOW.out.keep hb5) hfrn hfxn
            have HO6 := Lib.hid ho6
            have HG6 := Lib.hid (hg6 _ (grown_below HG.out hb5))
            clear hBB5 ho6 hg6 b0 b1 bl
            go_wp2_with fail
            exact ⟨⟨x, Sort.swp d fr fx, by omega, rfl, HE.out, HO6.out, HG6.out⟩, by have := HGE.out; simp [intOf]; omega⟩
      · have hyI : ¬ (y : Int) < (hi : Int) := by omega
        have HCH := Lib.hid (HCS.out.2 (fun h => hyh h.1))
        cases hl : befC d[fr]! d[fx]! with
        | false =>
          have HE : Hid (Sort.siftDown befC hi f lo d0 = d) := by show _ = _; rw [← HSD.out]; exact sift_stop HGE.out HCH.out (by rw [HFR.out, Hfx.out]; exact hl)
          have HLL := Lib.hid hl
          clear hl
          go_wp2_with fail
          refine (lessA HOW.out hfrn hfxn false HLL.out.symm).mono ?_
          rintro e w5 ⟨rfl, hb5⟩
          go_wp2_with fail
          (try simp only [Exit.inBlock, Exit.then])
          refine bodyPost_ret (results_none rfl _ _ _) rfl ?_
          exact ⟨rfl, d, HOW.out.keep hb5, HG0.out.trans (grown_below HG.out hb5), HE.out.symm⟩
        | true =>
          have HE : Hid (Sort.siftDown befC hi f x (Sort.swp d fr fx) = Sort.siftDown befC hi f lo d0) := by
            show _ = _
            have h := sift_go HGE.out HCH.out (by rw [HFR.out, Hfx.out]; exact hl)
            rw [HFR.out, Hfx.out] at h
            rw [← HSD.out, h]
          have HLL := Lib.hid hl
          clear hl
          go_wp2_with fail
          refine (lessA HOW.out hfrn hfxn true HLL.out.symm).mono ?_
          rintro e w5 ⟨rfl, hb5⟩
          have hBB5 := HBW.out.below hb5
          have c1 : w5.cell? ⟨w.heap.size, 1, none⟩ = some (.func (.func sf) #[] #[.slice (some ⟨g, 0, none⟩) n c, th]) := by simpa using hBB5.cell 1
          have cl := hBB5.lt
          obtain ⟨w6, hrun, ho6, hg6⟩ := swA HSW.out (HOW.out.keep hb5) hfrn hfxn
          have HO6 := Lib.hid ho6
          have HG6 := Lib.hid (hg6 _ (grown_below HG.out hb5))
          clear hBB5 ho6 hg6 b0 b1 bl
          go_wp2_with fail
          exact ⟨⟨x, Sort.swp d fr fx, by omega, rfl, HE.out, HO6.out, HG6.out⟩, by have := HGE.out; simp [intOf]; omega⟩
theorem build_go (hi f k : Nat) (d : Array C) : Sort.heapBuild befC hi f (k + 1) d = Sort.heapBuild befC hi f k (Sort.siftDown befC hi f k d) := rfl
theorem pop_go (f k : Nat) (d : Array C) : Sort.heapPop befC f (k + 1) d = Sort.heapPop befC f k (Sort.siftDown befC k f 0 (Sort.swp d f (f + k))) := rfl
set_option maxRecDepth 100000 in
set_option maxHeartbeats 6400000 in
theorem heapA (sf : Nat) (th : Value) (base g n c B : Nat) (hsw : Swaps sf th base g n c) (a b : Nat) (d0 : Array C) (w : World) (h : SA w base g n c B d0) (hab : a < b) (hb : b ≤ n) (hn : n ≤ 1099511627776) :
    Calls Try.prog 44 #[.agg #[.func (.func 26) #[] #[.pointer (some ⟨B, 0, none⟩)], .func (.func sf) #[] #[.slice (some ⟨g, 0, none⟩) n c, th]], .int .i64 (a : Int), .int .i64 (b : Int)] w (AP w base g n c B fun d' => d' = Sort.heapSort befC d0 a b) := by
  have hgl := h.lt.2
  have hneg : some w.heap.size ≠ some g := fun e => by injection e with e; omega
  have HS := Lib.hid (h.keep (bel_alloc (Below.refl _ _) (.cells #[.func (.func 26) #[] #[.pointer (some ⟨B, 0, none⟩)], .func (.func sf) #[] #[.slice (some ⟨g, 0, none⟩) n c, th]] 53)))
  have HSW := Lib.hid hsw
  have HBB := Lib.hid (Blk.new w 53 #[.func (.func 26) #[] #[.pointer (some ⟨B, 0, none⟩)], .func (.func sf) #[] #[.slice (some ⟨g, 0, none⟩) n c, th]])
  obtain ⟨W0, hW0⟩ : ∃ W0, (w.alloc (.cells #[.func (.func 26) #[] #[.pointer (some ⟨B, 0, none⟩)], .func (.func sf) #[] #[.slice (some ⟨g, 0, none⟩) n c, th]] 53)) = W0 := ⟨_, rfl⟩
  rw [hW0] at HS HBB
  have hw0 : w.grownBy W0 (some g) := by rw [← hW0]; exact grown_alloc1 (World.grownBy.refl _ _)
  have HW0 := Lib.hid hW0
  have HG0 := Lib.hid hw0
  obtain ⟨hi, hhi⟩ : ∃ hi, b - a = hi := ⟨_, rfl⟩
  have hhiI : (b : Int) - (a : Int) = (hi : Int) := by omega
  have hhiw : IntKind.i64.wrap (hi : Int) = (hi : Int) := Go.IntWalk.i64_in _ (by omega)
  obtain ⟨m, hm⟩ : ∃ m, hi - 1 = m := ⟨_, rfl⟩
  have hmI : (hi : Int) - 1 = (m : Int) := by omega
  have hmw : IntKind.i64.wrap (m : Int) = (m : Int) := Go.IntWalk.i64_in _ (by omega)
  obtain ⟨q, hq⟩ : ∃ q, m / 2 = q := ⟨_, rfl⟩
  have hqI : (m : Int).tdiv 2 = (q : Int) := by rw [Int.tdiv_eq_ediv_of_nonneg (by omega)]; omega
  have hqw : IntKind.i64.wrap (q : Int) = (q : Int) := Go.IntWalk.i64_in _ (by omega)
  have hhi0 : 0 < hi := by omega
  have hqm : q ≤ hi := by omega
  have hahi : a + hi ≤ n := by omega
  have HF : Hid (Sort.heapSort befC d0 a b = Sort.heapPop befC a hi (Sort.heapBuild befC hi a (q + 1) d0)) := by
    show _ = _
    unfold Sort.heapSort
    rw [hhi, hm, hq]
  have HQ : Hid (m / 2 = q) := hq
  clear hsw h hW0 hw0 hhi hm hq
  go_enter Try.func44, Try.ntmps44
  go_wp2_with fail
  rw [HW0.out]
  go_loopw [9] (fun e9 wr => ∃ (k : Nat) (d : Array C) (x : Int), k ≤ q + 1 ∧ x = (k : Int) - 1 ∧ e9 = .int .i64 x ∧ Sort.heapBuild befC hi a k d = Sort.heapBuild befC hi a (q + 1) d0 ∧ SA wr base g n c B d ∧ W0.grownBy wr (some g)) (fun e9 _ => (intOf e9 + 1).toNat)
  case atStart => exact ⟨q + 1, d0, (q : Int), Nat.le_refl _, by omega, rfl, rfl, HS.out, World.grownBy.refl _ _⟩
  case round =>
    obtain ⟨k, d, x, hkq, hx, rfl, hbd, hown, hg⟩ := hrel
    have HBD := Lib.hid hbd
    have HOW := Lib.hid hown
    have HG := Lib.hid hg
    clear hbd hown hg
    have hBB := HBB.out.grown HG.out hneg
    have b0 : wr.cell? ⟨w.heap.size, 0, none⟩ = some (.func (.func 26) #[] #[.pointer (some ⟨B, 0, none⟩)]) := by simpa using hBB.cell 0
    have b1 : wr.cell? ⟨w.heap.size, 1, none⟩ = some (.func (.func sf) #[] #[.slice (some ⟨g, 0, none⟩) n c, th]) := by simpa using hBB.cell 1
    have bl := hBB.lt
    have HBW := Lib.hid hBB
    clear hBB
    by_cases hk0 : 0 < k
    · obtain ⟨p, hp⟩ : ∃ p, k = p + 1 := ⟨k - 1, by omega⟩
      obtain rfl : x = (p : Int) := by omega
      have hxI : (p : Int) ≥ 0 := by omega
      have HP := Lib.hid hp
      have hpn : p ≤ n := by omega
      clear hp hx
      go_wp2_with fail
      refine (sftA sf th base g n c B HSW.out p hi a d _ HOW.out hahi hpn hn).mono ?_
      rintro e w1 ⟨rfl, d1, hS1, hg1, rfl⟩
      have HBD2 : Hid (Sort.heapBuild befC hi a p (Sort.siftDown befC hi a p d) = Sort.heapBuild befC hi a (q + 1) d0) := by
        show _ = _
        rw [← HBD.out, HP.out, build_go]
      have HS1 := Lib.hid hS1
      have HG1 := Lib.hid (HG.out.trans hg1)
      have hpw : IntKind.i64.wrap ((p : Int) - 1) = (p : Int) - 1 := Go.IntWalk.i64_in _ (by omega)
      clear hS1 hg1
      go_wp2_with fail
      exact ⟨⟨p, Sort.siftDown befC hi a p d, (p : Int) - 1, by have := HP.out; omega, rfl, rfl, HBD2.out, HS1.out, HG1.out⟩, by first | (simp [intOf]; done) | (simp [intOf]; omega)⟩
    · obtain rfl : k = 0 := by omega
      obtain rfl : x = -1 := by omega
      have HD : Hid (d = Sort.heapBuild befC hi a (q + 1) d0) := HBD.out
      clear hx
      go_wp2_with fail
      go_loopw [10] (fun e9 wr => ∃ (k : Nat) (d2 : Array C) (x : Int), k ≤ hi ∧ x = (k : Int) - 1 ∧ e9 = .int .i64 x ∧ Sort.heapPop befC a k d2 = Sort.heapPop befC a hi d ∧ SA wr base g n c B d2 ∧ W0.grownBy wr (some g)) (fun e9 _ => (intOf e9 + 1).toNat)
      case atStart => exact ⟨hi, d, (m : Int), Nat.le_refl _, by omega, rfl, rfl, HOW.out, HG.out⟩
      case round =>
        clear HOW HG HBW b0 b1 bl
        obtain ⟨k, d2, x, hkq, hx, rfl, hbd, hown, hg⟩ := hrel
        have HBD2 := Lib.hid hbd
        have HOW := Lib.hid hown
        have HG := Lib.hid hg
        clear hbd hown hg
        have hBB := HBB.out.grown HG.out hneg
        have b0 : wr.cell? ⟨w.heap.size, 0, none⟩ = some (.func (.func 26) #[] #[.pointer (some ⟨B, 0, none⟩)]) := by simpa using hBB.cell 0
        have b1 : wr.cell? ⟨w.heap.size, 1, none⟩ = some (.func (.func sf) #[] #[.slice (some ⟨g, 0, none⟩) n c, th]) := by simpa using hBB.cell 1
        have bl := hBB.lt
        have HBW := Lib.hid hBB
        clear hBB
        by_cases hk0 : 0 < k
        · obtain ⟨p, hp⟩ : ∃ p, k = p + 1 := ⟨k - 1, by omega⟩
          obtain rfl : x = (p : Int) := by omega
          have hxI : (p : Int) ≥ 0 := by omega
          obtain ⟨y, hy⟩ : ∃ y, a + p = y := ⟨_, rfl⟩
          have hyI : (a : Int) + (p : Int) = (y : Int) := by omega
          have hyw : IntKind.i64.wrap (y : Int) = (y : Int) := Go.IntWalk.i64_in _ (by omega)
          have HP := Lib.hid hp
          have HY := Lib.hid hy
          have hyn : y < n := by omega
          have han : a < n := by omega
          have hapn : a + p ≤ n := by omega
          obtain ⟨w2, hrun, ho2, hg2⟩ := swA HSW.out HOW.out han hyn
          have HO2 := Lib.hid ho2
          have HG2 := Lib.hid (hg2 _ HG.out)
          have hBB2 := HBB.out.grown HG2.out hneg
          have e0 : w2.cell? ⟨w.heap.size, 0, none⟩ = some (.func (.func 26) #[] #[.pointer (some ⟨B, 0, none⟩)]) := by simpa using hBB2.cell 0
          have e1 : w2.cell? ⟨w.heap.size, 1, none⟩ = some (.func (.func sf) #[] #[.slice (some ⟨g, 0, none⟩) n c, th]) := by simpa using hBB2.cell 1
          have el := hBB2.lt
          clear hp hx hy ho2 hg2 hBB2
          go_wp2_with fail
          refine (sftA sf th base g n c B HSW.out 0 p a (Sort.swp d2 a y) _ HO2.out hapn (Nat.zero_le _) hn).mono ?_
          rintro e w3 ⟨rfl, d3, hS3, hg3, rfl⟩
          have HBD3 : Hid (Sort.heapPop befC a p (Sort.siftDown befC p a 0 (Sort.swp d2 a y)) = Sort.heapPop befC a hi d) := by
            show _ = _
            rw [← HBD2.out, HP.out, pop_go, HY.out]
          have HS3 := Lib.hid hS3
          have HG3 := Lib.hid (HG2.out.trans hg3)
          have hpw : IntKind.i64.wrap ((p : Int) - 1) = (p : Int) - 1 := Go.IntWalk.i64_in _ (by omega)
          clear hS3 hg3
          go_wp2_with fail
          exact ⟨⟨p, Sort.siftDown befC p a 0 (Sort.swp d2 a y), (p : Int) - 1, by have := HP.out; omega, rfl, rfl, HBD3.out, HS3.out, HG3.out⟩, by first | (simp [intOf]; done) | (simp [intOf]; omega)⟩
        · obtain rfl : k = 0 := by omega
          obtain rfl : x = -1 := by omega
          have HE : Hid (d2 = Sort.heapSort befC d0 a b) := by show _ = _; rw [HF.out, ← HD.out]; exact HBD2.out
          clear hx
          go_wp2_with fail
          go_end0
          exact ⟨rfl, d2, HOW.out, HG0.out.trans HG.out, HE.out⟩
end Go.Proofs.Ytegnedpikpfjfaa

/- Cells put in order by the library: a part without smaller ones, split at the equal ones. -/
namespace Go.Proofs.Ytegnedpikpfjfaa
open Go.RowKit Go.Shelf
set_option linter.unusedVariables false
attribute [local go_sem ↓] Go.wp_at_zero Go.wp_at_succ
theorem up_go {p : C → Bool} {d : Array C} {j i : Nat} (h : i ≤ j) (hp : p d[i]! = true) : Sort.scanUp p d j i = Sort.scanUp p d j (i + 1) := by rw [Sort.scanUp, if_pos (by rw [hp]; simp; exact h)]
theorem up_stop {p : C → Bool} {d : Array C} {j i : Nat} (h : ¬ (i ≤ j ∧ p d[i]! = true)) : Sort.scanUp p d j i = i := by rw [Sort.scanUp, if_neg (by simp only [Bool.and_eq_true, decide_eq_true_eq]; exact h)]
theorem dn_go {p : C → Bool} {d : Array C} {i j q : Nat} (hj : j = q + 1) (h : i ≤ j) (hp : p d[j]! = true) : Sort.scanDown p d i j = Sort.scanDown p d i q := by
  subst hj
  rw [Sort.scanDown, if_pos (by rw [hp]; simp; exact h)]
theorem dn_stop {p : C → Bool} {d : Array C} {i j : Nat} (h : ¬ (i ≤ j ∧ p d[j]! = true)) : Sort.scanDown p d i j = j := by
  cases j with
  | zero => rfl
  | succ q => rw [Sort.scanDown, if_neg (by simp only [Bool.and_eq_true, decide_eq_true_eq]; exact h)]
theorem parteq_end {a i j i2 j2 : Nat} {d : Array C} (h1 : Sort.scanUp (fun x => !befC d[a]! x) d j i = i2) (h2 : Sort.scanDown (fun x => befC d[a]! x) d i2 j = j2) (h : i2 > j2) : Sort.partEqLoop befC a i j d = (i2, d) := by
  rw [Sort.partEqLoop]; rw [h1, h2, if_pos h]
theorem parteq_go {a i j i2 j2 : Nat} {d : Array C} (h1 : Sort.scanUp (fun x => !befC d[a]! x) d j i = i2) (h2 : Sort.scanDown (fun x => befC d[a]! x) d i2 j = j2) (h : ¬ i2 > j2) (hi : i ≤ i2) (hj : j2 ≤ j) : Sort.partEqLoop befC a i j d = Sort.partEqLoop befC a (i2 + 1) (j2 - 1) (Sort.swp d i2 j2) := by
  rw [Sort.partEqLoop]; rw [h1, h2, if_neg h, dif_pos (by omega)]
theorem part_end {a i j i2 j2 : Nat} {d : Array C} (h1 : Sort.scanUp (fun x => befC x d[a]!) d j i = i2) (h2 : Sort.scanDown (fun x => !befC x d[a]!) d i2 j = j2) (h : i2 > j2) : Sort.partLoop befC a i j d = (j2, d) := by
  rw [Sort.partLoop]; rw [h1, h2, if_pos h]
theorem part_go {a i j i2 j2 : Nat} {d : Array C} (h1 : Sort.scanUp (fun x => befC x d[a]!) d j i = i2) (h2 : Sort.scanDown (fun x => !befC x d[a]!) d i2 j = j2) (h : ¬ i2 > j2) (hi : i ≤ i2) (hj : j2 ≤ j) : Sort.partLoop befC a i j d = Sort.partLoop befC a (i2 + 1) (j2 - 1) (Sort.swp d i2 j2) := by
  rw [Sort.partLoop]; rw [h1, h2, if_neg h, dif_pos (by omega)]

set_option maxRecDepth 100000 in
set_option maxHeartbeats 6400000 in
theorem peqA (sf : Nat) (th : Value) (base g n c B : Nat) (hsw : Swaps sf th base g n c) (a b pv : Nat) (d0 : Array C) (w : World) (h : SA w base g n c B d0) (hab : a < b) (hb : b ≤ n) (hpn : pv < n) (hn : n ≤ 1099511627776) :
    Calls Try.prog 49 #[.agg #[.func (.func 26) #[] #[.pointer (some ⟨B, 0, none⟩)], .func (.func sf) #[] #[.slice (some ⟨g, 0, none⟩) n c, th]], .int .i64 (a : Int), .int .i64 (b : Int), .int .i64 (pv : Int)] w (APv w base g n c B fun v d' => v = .int .i64 ((Sort.partitionEqual befC d0 a b pv).1 : Int) ∧ d' = (Sort.partitionEqual befC d0 a b pv).2) := by
  have hgl := h.lt.2
  have hneg : some w.heap.size ≠ some g := fun e => by injection e with e; omega
  have HS := Lib.hid (h.keep (bel_alloc (Below.refl _ _) (.cells #[.func (.func 26) #[] #[.pointer (some ⟨B, 0, none⟩)], .func (.func sf) #[] #[.slice (some ⟨g, 0, none⟩) n c, th]] 53)))
  have HSW := Lib.hid hsw
  have HBB := Lib.hid (Blk.new w 53 #[.func (.func 26) #[] #[.pointer (some ⟨B, 0, none⟩)], .func (.func sf) #[] #[.slice (some ⟨g, 0, none⟩) n c, th]])
  obtain ⟨W0, hW0⟩ : ∃ W0, (w.alloc (.cells #[.func (.func 26) #[] #[.pointer (some ⟨B, 0, none⟩)], .func (.func sf) #[] #[.slice (some ⟨g, 0, none⟩) n c, th]] 53)) = W0 := ⟨_, rfl⟩
  rw [hW0] at HS HBB
  have hw0 : w.grownBy W0 (some g) := by rw [← hW0]; exact grown_alloc1 (World.grownBy.refl _ _)
  have HW0 := Lib.hid hW0
  have HG0 := Lib.hid hw0
  have han : a < n := by omega
  obtain ⟨b9, hb9⟩ : ∃ b9, b - 1 = b9 := ⟨_, rfl⟩
  have hb9I : (b : Int) - 1 = (b9 : Int) := by omega
  have hb9w : IntKind.i64.wrap (b9 : Int) = (b9 : Int) := Go.IntWalk.i64_in _ (by omega)
  have hb9n : b9 < n := by omega
  have hab9 : a ≤ b9 := by omega
  obtain ⟨w2, hrun, ho2, hg2⟩ := swA hsw HS.out han hpn
  rw [← hW0] at hrun
  obtain ⟨d1, hd1⟩ : ∃ d1, Sort.swp d0 a pv = d1 := ⟨_, rfl⟩
  rw [hd1] at ho2
  have HF : Hid (Sort.partitionEqual befC d0 a b pv = Sort.partEqLoop befC a (a + 1) b9 d1) := by
    show _ = _
    unfold Sort.partitionEqual
    rw [hb9, hd1]
  have HO2 := Lib.hid ho2
  have HG2 := Lib.hid (hg2 _ (World.grownBy.refl _ _))
  clear hsw h hW0 hw0 ho2 hg2 hd1 hb9
  go_enter Try.func49, Try.ntmps49
  go_wp2_with fail
  go_loopw [9, 10] (fun e9 e10 wr => ∃ (i j : Nat) (d : Array C), a + 1 ≤ i ∧ i ≤ j + 2 ∧ a ≤ j ∧ j < n ∧ e9 = .int .i64 i ∧ e10 = .int .i64 j ∧ Sort.partEqLoop befC a i j d = Sort.partEqLoop befC a (a + 1) b9 d1 ∧ SA wr base g n c B d ∧ W0.grownBy wr (some g)) (fun e9 e10 _ => (intOf e10 + 2 - intOf e9).toNat)
  case atStart => exact ⟨a + 1, b9, d1, Nat.le_refl _, by omega, hab9, hb9n, by go_num, rfl, rfl, HO2.out, HG2.out⟩
  case round =>
    obtain ⟨i, j, d, hi1, hij, haj, hjn, rfl, rfl, hpe, hown, hg⟩ := hrel
    have HPE := Lib.hid hpe
    have HOW := Lib.hid hown
    have HG := Lib.hid hg
    clear hpe hown hg HO2 HG2
    go_upto_block 2 with fail
    go_cut [9] from 20 to 32 (fun ev wc => ∃ t : Nat, ev = .int .i64 t ∧ i ≤ t ∧ (t ≤ j + 1 ∨ t = i) ∧ Sort.scanUp (fun x => !befC d[a]! x) d j i = t ∧ SA wc base g n c B d ∧ W0.grownBy wc (some g))
    case first =>
      go_wp2_with fail
      go_loopw [9] (fun ev wr => ∃ t : Nat, i ≤ t ∧ (t ≤ j + 1 ∨ t = i) ∧ ev = .int .i64 t ∧ Sort.scanUp (fun x => !befC d[a]! x) d j t = Sort.scanUp (fun x => !befC d[a]! x) d j i ∧ SA wr base g n c B d ∧ W0.grownBy wr (some g)) (fun ev _ => j + 1 - (intOf ev).toNat)
      case atStart => exact ⟨i, Nat.le_refl _, .inr rfl, rfl, rfl, HOW.out, HG.out⟩
      case round =>
        clear HOW HG
        obtain ⟨t, ht1, ht2, rfl, hsc, hown, hg⟩ := hrel
        have HSC := Lib.hid hsc
        have HOW := Lib.hid hown
        have HG := Lib.hid hg
        clear hsc hown hg
        have hBB := HBB.out.grown HG.out hneg
        have b0 : wr.cell? ⟨w.heap.size, 0, none⟩ = some (.func (.func 26) #[] #[.pointer (some ⟨B, 0, none⟩)]) := by simpa using hBB.cell 0
        have b1 : wr.cell? ⟨w.heap.size, 1, none⟩ = some (.func (.func sf) #[] #[.slice (some ⟨g, 0, none⟩) n c, th]) := by simpa using hBB.cell 1
        have bl := hBB.lt
        have HBW := Lib.hid hBB
        clear hBB
        by_cases hlt : t ≤ j
        · have hltI : (t : Int) ≤ (j : Int) := by omega
          have htn : t < n := by omega
          cases hbf : befC d[a]! d[t]! with
          | false =>
            have HS2 : Hid (Sort.scanUp (fun x => !befC d[a]! x) d j (t + 1) = Sort.scanUp (fun x => !befC d[a]! x) d j i) := (up_go hlt (by show (!befC d[a]! d[t]!) = true; rw [hbf]; rfl)).symm.trans HSC.out
            have HBF := Lib.hid hbf
            clear hbf
            go_wp2_with fail
            refine (lessA HOW.out han htn false HBF.out.symm).mono ?_
            rintro e w1 ⟨rfl, hb1⟩
            go_wp2_with fail
            exact ⟨⟨t + 1, by omega, .inl (by omega), by go_num, HS2.out, HOW.out.keep hb1, grown_below HG.out hb1⟩, by simp [intOf]; omega⟩
          | true =>
            have HS2 : Hid (Sort.scanUp (fun x => !befC d[a]! x) d j i = t) := HSC.out.symm.trans (up_stop (fun h => by have h2 : (!befC d[a]! d[t]!) = true := h.2; rw [hbf] at h2; exact absurd h2 (by decide)))
            have HBF := Lib.hid hbf
            clear hbf
            go_wp2_with fail
            refine (lessA HOW.out han htn true HBF.out.symm).mono ?_
            rintro e w1 ⟨rfl, hb1⟩
            go_wp2_with fail
            go_meet
            exact ⟨t, rfl, ht1, ht2, HS2.out, HOW.out.keep hb1, grown_below HG.out hb1⟩
        · have hltI : ¬ (t : Int) ≤ (j : Int) := by omega
          have HS2 : Hid (Sort.scanUp (fun x => !befC d[a]! x) d j i = t) := HSC.out.symm.trans (up_stop (fun h => hlt h.1))
          go_wp2_with fail
          go_meet
          exact ⟨t, rfl, ht1, ht2, HS2.out, HOW.out, HG.out⟩
    case rest =>
    clear HOW HG
    obtain ⟨i2, rfl, hi2a, hi2b, hsc, hown, hg⟩ := hcut
    have HSU := Lib.hid hsc
    have HOW := Lib.hid hown
    have HG := Lib.hid hg
    clear hsc hown hg
    go_upto_block 4 with fail
    go_cut [10] from 33 to 44 (fun ev wc => ∃ t : Nat, ev = .int .i64 t ∧ t ≤ j ∧ (i2 ≤ t + 1 ∨ t = j) ∧ Sort.scanDown (fun x => befC d[a]! x) d i2 j = t ∧ SA wc base g n c B d ∧ W0.grownBy wc (some g))
    case first =>
      go_wp2_with fail
      go_loopw [10] (fun ev wr => ∃ t : Nat, t ≤ j ∧ (i2 ≤ t + 1 ∨ t = j) ∧ ev = .int .i64 t ∧ Sort.scanDown (fun x => befC d[a]! x) d i2 t = Sort.scanDown (fun x => befC d[a]! x) d i2 j ∧ SA wr base g n c B d ∧ W0.grownBy wr (some g)) (fun ev _ => (intOf ev).toNat)
      case atStart => exact ⟨j, Nat.le_refl _, .inr rfl, rfl, rfl, HOW.out, HG.out⟩
      case round =>
        clear HOW HG
        obtain ⟨t, ht1, ht2, rfl, hsc, hown, hg⟩ := hrel
        have HSC := Lib.hid hsc
        have HOW := Lib.hid hown
        have HG := Lib.hid hg
        clear hsc hown hg
        have hBB := HBB.out.grown HG.out hneg
        have b0 : wr.cell? ⟨w.heap.size, 0, none⟩ = some (.func (.func 26) #[] #[.pointer (some ⟨B, 0, none⟩)]) := by simpa using hBB.cell 0
        have b1 : wr.cell? ⟨w.heap.size, 1, none⟩ = some (.func (.func sf) #[] #[.slice (some ⟨g, 0, none⟩) n c, th]) := by simpa using hBB.cell 1
        have bl := hBB.lt
        have HBW := Lib.hid hBB
        clear hBB
        by_cases hlt : i2 ≤ t
        · have hltI : (i2 : Int) ≤ (t : Int) := by omega
          have htn : t < n := by omega
          obtain ⟨q, hq⟩ : ∃ q, t = q + 1 := ⟨t - 1, by omega⟩
          have hqI : (t : Int) - 1 = (q : Int) := by omega
          have hqw : IntKind.i64.wrap (q : Int) = (q : Int) := Go.IntWalk.i64_in _ (by omega)
          have HQ := Lib.hid hq
          clear hq
          cases hbf : befC d[a]! d[t]! with
          | true =>
            have HS2 : Hid (Sort.scanDown (fun x => befC d[a]! x) d i2 q = Sort.scanDown (fun x => befC d[a]! x) d i2 j) := (dn_go HQ.out hlt (by show befC d[a]! d[t]! = true; rw [hbf])).symm.trans HSC.out
            have HBF := Lib.hid hbf
            clear hbf
            go_wp2_with fail
            refine (lessA HOW.out han htn true HBF.out.symm).mono ?_
            rintro e w1 ⟨rfl, hb1⟩
            go_wp2_with fail
            exact ⟨⟨q, by have := HQ.out; omega, .inl (by have := HQ.out; omega), rfl, HS2.out, HOW.out.keep hb1, grown_below HG.out hb1⟩, by have := HQ.out; simp [intOf]; omega⟩
          | false =>
            have HS2 : Hid (Sort.scanDown (fun x => befC d[a]! x) d i2 j = t) := HSC.out.symm.trans (dn_stop (fun h => by have h2 : befC d[a]! d[t]! = true := h.2; rw [hbf] at h2; exact absurd h2 (by decide)))
            have HBF := Lib.hid hbf
            clear hbf
            go_wp2_with fail
            refine (lessA HOW.out han htn false HBF.out.symm).mono ?_
            rintro e w1 ⟨rfl, hb1⟩
            go_wp2_with fail
            go_meet
            exact ⟨t, rfl, ht1, ht2, HS2.out, HOW.out.keep hb1, grown_below HG.out hb1⟩
        · have hltI : ¬ (i2 : Int) ≤ (t : Int) := by omega
          have HS2 : Hid (Sort.scanDown (fun x => befC d[a]! x) d i2 j = t) := HSC.out.symm.trans (dn_stop (fun h => hlt h.1))
          go_wp2_with fail
          go_meet
          exact ⟨t, rfl, ht1, ht2, HS2.out, HOW.out, HG.out⟩
    case rest =>
    clear HOW HG
    obtain ⟨j2, rfl, hj2a, hj2b, hsc, hown, hg⟩ := hcut
    have HSD := Lib.hid hsc
    have HOW := Lib.hid hown
    have HG := Lib.hid hg
    clear hsc hown hg
    by_cases hgt : i2 > j2
    · have hgtI : (i2 : Int) > (j2 : Int) := by omega
      have HE : Hid (Sort.partEqLoop befC a (a + 1) b9 d1 = (i2, d)) := HPE.out.symm.trans (parteq_end HSU.out HSD.out hgt)
      go_wp2_with fail
      go_ret
      exact ⟨.int .i64 (i2 : Int), d, rfl, HOW.out, HG0.out.trans HG.out, by rw [HF.out, HE.out], by rw [HF.out, HE.out]⟩
    · have hgtI : ¬ (i2 : Int) > (j2 : Int) := by omega
      have HE := Lib.hid ((parteq_go HSU.out HSD.out hgt hi2a hj2a).symm.trans HPE.out)
      have hi2n : i2 < n := by omega
      have hj2n : j2 < n := by omega
      obtain ⟨j3, hj3⟩ : ∃ j3, j2 - 1 = j3 := ⟨_, rfl⟩
      have hj3I : (j2 : Int) - 1 = (j3 : Int) := by omega
      have hj3w : IntKind.i64.wrap (j3 : Int) = (j3 : Int) := Go.IntWalk.i64_in _ (by omega)
      rw [hj3] at HE
      have hBB := HBB.out.grown HG.out hneg
      have b0 : wc.cell? ⟨w.heap.size, 0, none⟩ = some (.func (.func 26) #[] #[.pointer (some ⟨B, 0, none⟩)]) := by simpa using hBB.cell 0
      have b1 : wc.cell? ⟨w.heap.size, 1, none⟩ = some (.func (.func sf) #[] #[.slice (some ⟨g, 0, none⟩) n c, th]) := by simpa using hBB.cell 1
      have bl := hBB.lt
      have HBW := Lib.hid hBB
      clear hBB
      obtain ⟨w5, hrun, ho5, hg5⟩ := swA HSW.out HOW.out hi2n hj2n
      have HO5 := Lib.hid ho5
      have HG5 := Lib.hid (hg5 _ HG.out)
      clear ho5 hg5
      have hj3e : j2 = j3 + 1 := by omega
      have HJ3 := Lib.hid hj3e
      clear hj3 hj3e
      go_wp2_with fail
      exact ⟨⟨i2 + 1, j3, Sort.swp d i2 j2, by omega, by have := HJ3.out; omega, by have := HJ3.out; omega, by have := HJ3.out; omega, by go_num, rfl, HE.out, HO5.out, HG5.out⟩, by have := HJ3.out; simp [intOf]; omega⟩
end Go.Proofs.Ytegnedpikpfjfaa

/- Cells put in order by the library: the split at a pivot. -/
namespace Go.Proofs.Ytegnedpikpfjfaa
open Go.RowKit Go.Shelf
set_option linter.unusedVariables false
attribute [local go_sem ↓] Go.wp_at_zero Go.wp_at_succ

theorem partn_now {a b pv b9 i0 i2 j2 : Nat} {d0 d : Array C} (hd : Sort.swp d0 a pv = d) (hb : b - 1 = b9) (hi : a + 1 = i0) (h1 : Sort.scanUp (fun x => befC x d[a]!) d b9 i0 = i2) (h2 : Sort.scanDown (fun x => !befC x d[a]!) d i2 b9 = j2) (h : i2 > j2) : Sort.partition befC d0 a b pv = (j2, true, Sort.swp d j2 a) := by
  unfold Sort.partition
  dsimp only
  rw [hd, hb, hi, h1, h2, if_pos h]
theorem partn_loop {a b pv b9 i0 i2 j2 : Nat} {d0 d : Array C} (hd : Sort.swp d0 a pv = d) (hb : b - 1 = b9) (hi : a + 1 = i0) (h1 : Sort.scanUp (fun x => befC x d[a]!) d b9 i0 = i2) (h2 : Sort.scanDown (fun x => !befC x d[a]!) d i2 b9 = j2) (h : ¬ i2 > j2) : Sort.partition befC d0 a b pv = ((Sort.partLoop befC a (i2 + 1) (j2 - 1) (Sort.swp d i2 j2)).1, false, Sort.swp (Sort.partLoop befC a (i2 + 1) (j2 - 1) (Sort.swp d i2 j2)).2 (Sort.partLoop befC a (i2 + 1) (j2 - 1) (Sort.swp d i2 j2)).1 a) := by
  unfold Sort.partition
  dsimp only
  rw [hd, hb, hi, h1, h2, if_neg h]
set_option maxRecDepth 100000 in
set_option maxHeartbeats 6400000 in
theorem partA (sf : Nat) (th : Value) (base g n c B : Nat) (hsw : Swaps sf th base g n c) (a b pv : Nat) (d0 : Array C) (w : World) (h : SA w base g n c B d0) (hab : a < b) (hb : b ≤ n) (hpn : pv < n) (hn : n ≤ 1099511627776) :
    Calls Try.prog 50 #[.agg #[.func (.func 26) #[] #[.pointer (some ⟨B, 0, none⟩)], .func (.func sf) #[] #[.slice (some ⟨g, 0, none⟩) n c, th]], .int .i64 (a : Int), .int .i64 (b : Int), .int .i64 (pv : Int)] w (APv w base g n c B fun v d' => v = .tuple #[.int .i64 ((Sort.partition befC d0 a b pv).1 : Int), .bool (Sort.partition befC d0 a b pv).2.1] ∧ d' = (Sort.partition befC d0 a b pv).2.2) := by
  have hgl := h.lt.2
  have hneg : some w.heap.size ≠ some g := fun e => by injection e with e; omega
  have HS := Lib.hid (h.keep (bel_alloc (Below.refl _ _) (.cells #[.func (.func 26) #[] #[.pointer (some ⟨B, 0, none⟩)], .func (.func sf) #[] #[.slice (some ⟨g, 0, none⟩) n c, th]] 53)))
  have HSW := Lib.hid hsw
  have HBB := Lib.hid (Blk.new w 53 #[.func (.func 26) #[] #[.pointer (some ⟨B, 0, none⟩)], .func (.func sf) #[] #[.slice (some ⟨g, 0, none⟩) n c, th]])
  obtain ⟨W0, hW0⟩ : ∃ W0, (w.alloc (.cells #[.func (.func 26) #[] #[.pointer (some ⟨B, 0, none⟩)], .func (.func sf) #[] #[.slice (some ⟨g, 0, none⟩) n c, th]] 53)) = W0 := ⟨_, rfl⟩
  rw [hW0] at HS HBB
  have hw0 : w.grownBy W0 (some g) := by rw [← hW0]; exact grown_alloc1 (World.grownBy.refl _ _)
  have HW0 := Lib.hid hW0
  have HG0 := Lib.hid hw0
  have han : a < n := by omega
  obtain ⟨b9, hb9⟩ : ∃ b9, b - 1 = b9 := ⟨_, rfl⟩
  have hb9I : (b : Int) - 1 = (b9 : Int) := by omega
  have hb9w : IntKind.i64.wrap (b9 : Int) = (b9 : Int) := Go.IntWalk.i64_in _ (by omega)
  obtain ⟨i0, hi0⟩ : ∃ i0, a + 1 = i0 := ⟨_, rfl⟩
  have hi0I : (a : Int) + 1 = (i0 : Int) := by omega
  have hi0w : IntKind.i64.wrap (i0 : Int) = (i0 : Int) := Go.IntWalk.i64_in _ (by omega)
  have hb9n : b9 < n := by omega
  have hab9 : a ≤ b9 := by omega
  have hai0 : a + 1 ≤ i0 := by omega
  have hi0b : i0 ≤ b9 + 1 := by omega
  obtain ⟨w2, hrun, ho2, hg2⟩ := swA hsw HS.out han hpn
  rw [← hW0] at hrun
  obtain ⟨d, hd1⟩ : ∃ d1, Sort.swp d0 a pv = d1 := ⟨_, rfl⟩
  rw [hd1] at ho2
  have HB9 : Hid (b - 1 = b9) := hb9
  have HI0 : Hid (a + 1 = i0) := hi0
  have HD1 := Lib.hid hd1
  have HOW := Lib.hid ho2
  have HG := Lib.hid (hg2 _ (World.grownBy.refl _ _))
  clear hsw h hW0 hw0 ho2 hg2 hd1 hb9 hi0
  go_enter Try.func50, Try.ntmps50
  go_upto_block 0 with fail
  go_cut [10] from 21 to 32 (fun ev wc => ∃ t : Nat, ev = .int .i64 t ∧ i0 ≤ t ∧ (t ≤ b9 + 1 ∨ t = i0) ∧ Sort.scanUp (fun x => befC x d[a]!) d b9 i0 = t ∧ SA wc base g n c B d ∧ W0.grownBy wc (some g))
  case first =>
    go_wp2_with fail
    go_loopw [10] (fun ev wr => ∃ t : Nat, i0 ≤ t ∧ (t ≤ b9 + 1 ∨ t = i0) ∧ ev = .int .i64 t ∧ Sort.scanUp (fun x => befC x d[a]!) d b9 t = Sort.scanUp (fun x => befC x d[a]!) d b9 i0 ∧ SA wr base g n c B d ∧ W0.grownBy wr (some g)) (fun ev _ => b9 + 1 - (intOf ev).toNat)
    case atStart => exact ⟨i0, Nat.le_refl _, .inr rfl, rfl, rfl, HOW.out, HG.out⟩
    case round =>
      clear HOW HG
      obtain ⟨t, ht1, ht2, rfl, hsc, hown, hg⟩ := hrel
      have HSC := Lib.hid hsc
      have HOW := Lib.hid hown
      have HG := Lib.hid hg
      clear hsc hown hg
      have hBB := HBB.out.grown HG.out hneg
      have b0 : wr.cell? ⟨w.heap.size, 0, none⟩ = some (.func (.func 26) #[] #[.pointer (some ⟨B, 0, none⟩)]) := by simpa using hBB.cell 0
      have b1 : wr.cell? ⟨w.heap.size, 1, none⟩ = some (.func (.func sf) #[] #[.slice (some ⟨g, 0, none⟩) n c, th]) := by simpa using hBB.cell 1
      have bl := hBB.lt
      have HBW := Lib.hid hBB
      clear hBB
      by_cases hlt : t ≤ b9
      · have hltI : (t : Int) ≤ (b9 : Int) := by omega
        have htn : t < n := by omega
        cases hbf : befC d[t]! d[a]! with
        | true =>
          have HS2 : Hid (Sort.scanUp (fun x => befC x d[a]!) d b9 (t + 1) = Sort.scanUp (fun x => befC x d[a]!) d b9 i0) := (up_go hlt (by show befC d[t]! d[a]! = true; rw [hbf])).symm.trans HSC.out
          have HBF := Lib.hid hbf
          clear hbf
          go_wp2_with fail
          refine (lessA HOW.out htn han true HBF.out.symm).mono ?_
          rintro e w1 ⟨rfl, hb1⟩
          go_wp2_with fail
          exact ⟨⟨t + 1, by omega, .inl (by omega), by go_num, HS2.out, HOW.out.keep hb1, grown_below HG.out hb1⟩, by simp [intOf]; omega⟩
        | false =>
          have HS2 : Hid (Sort.scanUp (fun x => befC x d[a]!) d b9 i0 = t) := HSC.out.symm.trans (up_stop (fun h => by have h2 : befC d[t]! d[a]! = true := h.2; rw [hbf] at h2; exact absurd h2 (by decide)))
          have HBF := Lib.hid hbf
          clear hbf
          go_wp2_with fail
          refine (lessA HOW.out htn han false HBF.out.symm).mono ?_
          rintro e w1 ⟨rfl, hb1⟩
          go_wp2_with fail
          go_meet
          exact ⟨t, rfl, ht1, ht2, HS2.out, HOW.out.keep hb1, grown_below HG.out hb1⟩
      · have hltI : ¬ (t : Int) ≤ (b9 : Int) := by omega
        have HS2 : Hid (Sort.scanUp (fun x => befC x d[a]!) d b9 i0 = t) := HSC.out.symm.trans (up_stop (fun h => hlt h.1))
        go_wp2_with fail
        go_meet
        exact ⟨t, rfl, ht1, ht2, HS2.out, HOW.out, HG.out⟩
  case rest =>
  clear HOW HG
  obtain ⟨i2, rfl, hi2a, hi2b, hsc, hown, hg⟩ := hcut
  have HSU := Lib.hid hsc
  have HOW := Lib.hid hown
  have HG := Lib.hid hg
  clear hsc hown hg
  go_upto_block 2 with fail
  go_cut [11] from 33 to 45 (fun ev wc => ∃ t : Nat, ev = .int .i64 t ∧ t ≤ b9 ∧ (i2 ≤ t + 1 ∨ t = b9) ∧ Sort.scanDown (fun x => !befC x d[a]!) d i2 b9 = t ∧ SA wc base g n c B d ∧ W0.grownBy wc (some g))
  case first =>
    go_wp2_with fail
    go_loopw [11] (fun ev wr => ∃ t : Nat, t ≤ b9 ∧ (i2 ≤ t + 1 ∨ t = b9) ∧ ev = .int .i64 t ∧ Sort.scanDown (fun x => !befC x d[a]!) d i2 t = Sort.scanDown (fun x => !befC x d[a]!) d i2 b9 ∧ SA wr base g n c B d ∧ W0.grownBy wr (some g)) (fun ev _ => (intOf ev).toNat)
    case atStart => exact ⟨b9, Nat.le_refl _, .inr rfl, rfl, rfl, HOW.out, HG.out⟩
    case round =>
      clear HOW HG
      obtain ⟨t, ht1, ht2, rfl, hsc, hown, hg⟩ := hrel
      have HSC := Lib.hid hsc
      have HOW := Lib.hid hown
      have HG := Lib.hid hg
      clear hsc hown hg
      have hBB := HBB.out.grown HG.out hneg
      have b0 : wr.cell? ⟨w.heap.size, 0, none⟩ = some (.func (.func 26) #[] #[.pointer (some ⟨B, 0, none⟩)]) := by simpa using hBB.cell 0
      have b1 : wr.cell? ⟨w.heap.size, 1, none⟩ = some (.func (.func sf) #[] #[.slice (some ⟨g, 0, none⟩) n c, th]) := by simpa using hBB.cell 1
      have bl := hBB.lt
      have HBW := Lib.hid hBB
      clear hBB
      by_cases hlt : i2 ≤ t
      · have hltI : (i2 : Int) ≤ (t : Int) := by omega
        have htn : t < n := by omega
        obtain ⟨q, hq⟩ : ∃ q, t = q + 1 := ⟨t - 1, by omega⟩
        have hqI : (t : Int) - 1 = (q : Int) := by omega
        have hqw : IntKind.i64.wrap (q : Int) = (q : Int) := Go.IntWalk.i64_in _ (by omega)
        have HQ := Lib.hid hq
        clear hq
        cases hbf : befC d[t]! d[a]! with
        | false =>
          have HS2 : Hid (Sort.scanDown (fun x => !befC x d[a]!) d i2 q = Sort.scanDown (fun x => !befC x d[a]!) d i2 b9) := (dn_go HQ.out hlt (by show (!befC d[t]! d[a]!) = true; rw [hbf]; rfl)).symm.trans HSC.out
          have HBF := Lib.hid hbf
          clear hbf
          go_wp2_with fail
          refine (lessA HOW.out htn han false HBF.out.symm).mono ?_
          rintro e w1 ⟨rfl, hb1⟩
          go_wp2_with fail
          exact ⟨⟨q, by have := HQ.out; omega, .inl (by have := HQ.out; omega), rfl, HS2.out, HOW.out.keep hb1, grown_below HG.out hb1⟩, by have := HQ.out; simp [intOf]; omega⟩
        | true =>
          have HS2 : Hid (Sort.scanDown (fun x => !befC x d[a]!) d i2 b9 = t) := HSC.out.symm.trans (dn_stop (fun h => by have h2 : (!befC d[t]! d[a]!) = true := h.2; rw [hbf] at h2; exact absurd h2 (by decide)))
          have HBF := Lib.hid hbf
          clear hbf
          go_wp2_with fail
          refine (lessA HOW.out htn han true HBF.out.symm).mono ?_
          rintro e w1 ⟨rfl, hb1⟩
          go_wp2_with fail
          go_meet
          exact ⟨t, rfl, ht1, ht2, HS2.out, HOW.out.keep hb1, grown_below HG.out hb1⟩
      · have hltI : ¬ (i2 : Int) ≤ (t : Int) := by omega
        have HS2 : Hid (Sort.scanDown (fun x => !befC x d[a]!) d i2 b9 = t) := HSC.out.symm.trans (dn_stop (fun h => hlt h.1))
        go_wp2_with fail
        go_meet
        exact ⟨t, rfl, ht1, ht2, HS2.out, HOW.out, HG.out⟩
  case rest =>
  clear HOW HG
  obtain ⟨j2, rfl, hj2a, hj2b, hsc, hown, hg⟩ := hcut
  have HSD := Lib.hid hsc
  have HOW := Lib.hid hown
  have HG := Lib.hid hg
  clear hsc hown hg
  by_cases hgt : i2 > j2
  · have hgtI : (i2 : Int) > (j2 : Int) := by omega
    have hj2n : j2 < n := by omega
    have HE := Lib.hid (partn_now HD1.out HB9.out HI0.out HSU.out HSD.out hgt)
    have hBB := HBB.out.grown HG.out hneg
    have b0 : wc.cell? ⟨w.heap.size, 0, none⟩ = some (.func (.func 26) #[] #[.pointer (some ⟨B, 0, none⟩)]) := by simpa using hBB.cell 0
    have b1 : wc.cell? ⟨w.heap.size, 1, none⟩ = some (.func (.func sf) #[] #[.slice (some ⟨g, 0, none⟩) n c, th]) := by simpa using hBB.cell 1
    have bl := hBB.lt
    have HBW := Lib.hid hBB
    clear hBB
    obtain ⟨w5, hrun, ho5, hg5⟩ := swA HSW.out HOW.out hj2n han
    have HO5 := Lib.hid ho5
    have HG5 := Lib.hid (hg5 _ HG.out)
    clear ho5 hg5
    go_wp2_with fail
    go_ret2
    exact ⟨.tuple #[.int .i64 (j2 : Int), .bool true], Sort.swp d j2 a, rfl, HO5.out, HG0.out.trans HG5.out, by rw [HE.out], by rw [HE.out]⟩
  · have hgtI : ¬ (i2 : Int) > (j2 : Int) := by omega
    have HE := Lib.hid (partn_loop HD1.out HB9.out HI0.out HSU.out HSD.out hgt)
    have hi2n : i2 < n := by omega
    have hj2n : j2 < n := by omega
    obtain ⟨j3, hj3⟩ : ∃ j3, j2 - 1 = j3 := ⟨_, rfl⟩
    have hj3I : (j2 : Int) - 1 = (j3 : Int) := by omega
    have hj3w : IntKind.i64.wrap (j3 : Int) = (j3 : Int) := Go.IntWalk.i64_in _ (by omega)
    rw [hj3] at HE
    have hBB := HBB.out.grown HG.out hneg
    have b0 : wc.cell? ⟨w.heap.size, 0, none⟩ = some (.func (.func 26) #[] #[.pointer (some ⟨B, 0, none⟩)]) := by simpa using hBB.cell 0
    have b1 : wc.cell? ⟨w.heap.size, 1, none⟩ = some (.func (.func sf) #[] #[.slice (some ⟨g, 0, none⟩) n c, th]) := by simpa using hBB.cell 1
    have bl := hBB.lt
    have HBW := Lib.hid hBB
    clear hBB
    obtain ⟨w5, hrun, ho5, hg5⟩ := swA HSW.out HOW.out hi2n hj2n
    have HO5 := Lib.hid ho5
    have HG5 := Lib.hid (hg5 _ HG.out)
    clear ho5 hg5
    have hj3e : j2 = j3 + 1 := by omega
    obtain ⟨d3, hd3⟩ : ∃ d3, Sort.swp d i2 j2 = d3 := ⟨_, rfl⟩
    rw [hd3] at HE HO5
    have hij0 : i2 + 1 ≤ j3 + 2 := by omega
    have haj0 : a ≤ j3 := by omega
    have hjn0 : j3 < n := by omega
    have hi20 : a + 1 ≤ i2 + 1 := by omega
    clear hj3 hj3e hd3 HSU HSD HOW HG HD1
    go_wp2_with fail
    go_loopw [10, 11] (fun e9 e10 wr => ∃ (i j : Nat) (d : Array C), a + 1 ≤ i ∧ i ≤ j + 2 ∧ a ≤ j ∧ j < n ∧ e9 = .int .i64 i ∧ e10 = .int .i64 j ∧ Sort.partLoop befC a i j d = Sort.partLoop befC a (i2 + 1) j3 d3 ∧ SA wr base g n c B d ∧ W0.grownBy wr (some g)) (fun e9 e10 _ => (intOf e10 + 2 - intOf e9).toNat)
    case atStart => exact ⟨i2 + 1, j3, d3, hi20, hij0, haj0, hjn0, by go_num, rfl, rfl, HO5.out, HG5.out⟩
    case round =>
      clear hgtI hgt hi2a hi2b hj2a hj2b hij0 hi20
      obtain ⟨i, j, d, hi1, hij, haj, hjn, rfl, rfl, hpe, hown, hg⟩ := hrel
      have HPE := Lib.hid hpe
      have HOW := Lib.hid hown
      have HG := Lib.hid hg
      clear hpe hown hg HO5 HG5
      go_upto_block 6 with fail
      go_cut [10] from 64 to 75 (fun ev wc => ∃ t : Nat, ev = .int .i64 t ∧ i ≤ t ∧ (t ≤ j + 1 ∨ t = i) ∧ Sort.scanUp (fun x => befC x d[a]!) d j i = t ∧ SA wc base g n c B d ∧ W0.grownBy wc (some g))
      case first =>
        go_wp2_with fail
        go_loopw [10] (fun ev wr => ∃ t : Nat, i ≤ t ∧ (t ≤ j + 1 ∨ t = i) ∧ ev = .int .i64 t ∧ Sort.scanUp (fun x => befC x d[a]!) d j t = Sort.scanUp (fun x => befC x d[a]!) d j i ∧ SA wr base g n c B d ∧ W0.grownBy wr (some g)) (fun ev _ => j + 1 - (intOf ev).toNat)
        case atStart => exact ⟨i, Nat.le_refl _, .inr rfl, rfl, rfl, HOW.out, HG.out⟩
        case round =>
          clear HOW HG
          obtain ⟨t, ht1, ht2, rfl, hsc, hown, hg⟩ := hrel
          have HSC := Lib.hid hsc
          have HOW := Lib.hid hown
          have HG := Lib.hid hg
          clear hsc hown hg
          have hBB := HBB.out.grown HG.out hneg
          have b0 : wr.cell? ⟨w.heap.size, 0, none⟩ = some (.func (.func 26) #[] #[.pointer (some ⟨B, 0, none⟩)]) := by simpa using hBB.cell 0
          have b1 : wr.cell? ⟨w.heap.size, 1, none⟩ = some (.func (.func sf) #[] #[.slice (some ⟨g, 0, none⟩) n c, th]) := by simpa using hBB.cell 1
          have bl := hBB.lt
          have HBW := Lib.hid hBB
          clear hBB
          by_cases hlt : t ≤ j
          · have hltI : (t : Int) ≤ (j : Int) := by omega
            have htn : t < n := by omega
            cases hbf : befC d[t]! d[a]! with
            | true =>
              have HS2 : Hid (Sort.scanUp (fun x => befC x d[a]!) d j (t + 1) = Sort.scanUp (fun x => befC x d[a]!) d j i) := (up_go hlt (by show befC d[t]! d[a]! = true; rw [hbf])).symm.trans HSC.out
              have HBF := Lib.hid hbf
              clear hbf
              go_wp2_with fail
              refine (lessA HOW.out htn han true HBF.out.symm).mono ?_
              rintro e w1 ⟨rfl, hb1⟩
              go_wp2_with fail
              exact ⟨⟨t + 1, by omega, .inl (by omega), by go_num, HS2.out, HOW.out.keep hb1, grown_below HG.out hb1⟩, by simp [intOf]; omega⟩
            | false =>
              have HS2 : Hid (Sort.scanUp (fun x => befC x d[a]!) d j i = t) := HSC.out.symm.trans (up_stop (fun h => by have h2 : befC d[t]! d[a]! = true := h.2; rw [hbf] at h2; exact absurd h2 (by decide)))
              have HBF := Lib.hid hbf
              clear hbf
              go_wp2_with fail
              refine (lessA HOW.out htn han false HBF.out.symm).mono ?_
              rintro e w1 ⟨rfl, hb1⟩
              go_wp2_with fail
              go_meet
              exact ⟨t, rfl, ht1, ht2, HS2.out, HOW.out.keep hb1, grown_below HG.out hb1⟩
          · have hltI : ¬ (t : Int) ≤ (j : Int) := by omega
            have HS2 : Hid (Sort.scanUp (fun x => befC x d[a]!) d j i = t) := HSC.out.symm.trans (up_stop (fun h => hlt h.1))
            go_wp2_with fail
            go_meet
            exact ⟨t, rfl, ht1, ht2, HS2.out, HOW.out, HG.out⟩
      case rest =>
      clear HOW HG
      obtain ⟨i4, rfl, hi4a, hi4b, hsc, hown, hg⟩ := hcut
      have HSU := Lib.hid hsc
      have HOW := Lib.hid hown
      have HG := Lib.hid hg
      clear hsc hown hg
      go_upto_block 8 with fail
      go_cut [11] from 76 to 88 (fun ev wc => ∃ t : Nat, ev = .int .i64 t ∧ t ≤ j ∧ (i4 ≤ t + 1 ∨ t = j) ∧ Sort.scanDown (fun x => !befC x d[a]!) d i4 j = t ∧ SA wc base g n c B d ∧ W0.grownBy wc (some g))
      case first =>
        go_wp2_with fail
        go_loopw [11] (fun ev wr => ∃ t : Nat, t ≤ j ∧ (i4 ≤ t + 1 ∨ t = j) ∧ ev = .int .i64 t ∧ Sort.scanDown (fun x => !befC x d[a]!) d i4 t = Sort.scanDown (fun x => !befC x d[a]!) d i4 j ∧ SA wr base g n c B d ∧ W0.grownBy wr (some g)) (fun ev _ => (intOf ev).toNat)
        case atStart => exact ⟨j, Nat.le_refl _, .inr rfl, rfl, rfl, HOW.out, HG.out⟩
        case round =>
          clear HOW HG
          obtain ⟨t, ht1, ht2, rfl, hsc, hown, hg⟩ := hrel
          have HSC := Lib.hid hsc
          have HOW := Lib.hid hown
          have HG := Lib.hid hg
          clear hsc hown hg
          have hBB := HBB.out.grown HG.out hneg
          have b0 : wr.cell? ⟨w.heap.size, 0, none⟩ = some (.func (.func 26) #[] #[.pointer (some ⟨B, 0, none⟩)]) := by simpa using hBB.cell 0
          have b1 : wr.cell? ⟨w.heap.size, 1, none⟩ = some (.func (.func sf) #[] #[.slice (some ⟨g, 0, none⟩) n c, th]) := by simpa using hBB.cell 1
          have bl := hBB.lt
          have HBW := Lib.hid hBB
          clear hBB
          by_cases hlt : i4 ≤ t
          · have hltI : (i4 : Int) ≤ (t : Int) := by omega
            have htn : t < n := by omega
            obtain ⟨q, hq⟩ : ∃ q, t = q + 1 := ⟨t - 1, by omega⟩
            have hqI : (t : Int) - 1 = (q : Int) := by omega
            have hqw : IntKind.i64.wrap (q : Int) = (q : Int) := Go.IntWalk.i64_in _ (by omega)
            have HQ := Lib.hid hq
            clear hq
            cases hbf : befC d[t]! d[a]! with
            | false =>
              have HS2 : Hid (Sort.scanDown (fun x => !befC x d[a]!) d i4 q = Sort.scanDown (fun x => !befC x d[a]!) d i4 j) := (dn_go HQ.out hlt (by show (!befC d[t]! d[a]!) = true; rw [hbf]; rfl)).symm.trans HSC.out
              have HBF := Lib.hid hbf
              clear hbf
              go_wp2_with fail
              refine (lessA HOW.out htn han false HBF.out.symm).mono ?_
              rintro e w1 ⟨rfl, hb1⟩
              go_wp2_with fail
              exact ⟨⟨q, by have := HQ.out; omega, .inl (by have := HQ.out; omega), rfl, HS2.out, HOW.out.keep hb1, grown_below HG.out hb1⟩, by have := HQ.out; simp [intOf]; omega⟩
            | true =>
              have HS2 : Hid (Sort.scanDown (fun x => !befC x d[a]!) d i4 j = t) := HSC.out.symm.trans (dn_stop (fun h => by have h2 : (!befC d[t]! d[a]!) = true := h.2; rw [hbf] at h2; exact absurd h2 (by decide)))
              have HBF := Lib.hid hbf
              clear hbf
              go_wp2_with fail
              refine (lessA HOW.out htn han true HBF.out.symm).mono ?_
              rintro e w1 ⟨rfl, hb1⟩
              go_wp2_with fail
              go_meet
              exact ⟨t, rfl, ht1, ht2, HS2.out, HOW.out.keep hb1, grown_below HG.out hb1⟩
          · have hltI : ¬ (i4 : Int) ≤ (t : Int) := by omega
            have HS2 : Hid (Sort.scanDown (fun x => !befC x d[a]!) d i4 j = t) := HSC.out.symm.trans (dn_stop (fun h => hlt h.1))
            go_wp2_with fail
            go_meet
            exact ⟨t, rfl, ht1, ht2, HS2.out, HOW.out, HG.out⟩
      case rest =>
      clear HOW HG
      obtain ⟨j4, rfl, hj4a, hj4b, hsc, hown, hg⟩ := hcut
      have HSD := Lib.hid hsc
      have HOW := Lib.hid hown
      have HG := Lib.hid hg
      clear hsc hown hg
      by_cases hgt : i4 > j4
      · have hgtI : (i4 : Int) > (j4 : Int) := by omega
        have HE2 : Hid (Sort.partLoop befC a (i2 + 1) j3 d3 = (j4, d)) := HPE.out.symm.trans (part_end HSU.out HSD.out hgt)
        have hj4n : j4 < n := by omega
        have hBB := HBB.out.grown HG.out hneg
        have b0 : wc.cell? ⟨w.heap.size, 0, none⟩ = some (.func (.func 26) #[] #[.pointer (some ⟨B, 0, none⟩)]) := by simpa using hBB.cell 0
        have b1 : wc.cell? ⟨w.heap.size, 1, none⟩ = some (.func (.func sf) #[] #[.slice (some ⟨g, 0, none⟩) n c, th]) := by simpa using hBB.cell 1
        have bl := hBB.lt
        have HBW := Lib.hid hBB
        clear hBB
        obtain ⟨w5, hrun, ho5, hg5⟩ := swA HSW.out HOW.out hj4n han
        have HO5 := Lib.hid ho5
        have HG5 := Lib.hid (hg5 _ HG.out)
        clear ho5 hg5
        go_wp2_with fail
        go_ret2
        exact ⟨.tuple #[.int .i64 (j4 : Int), .bool false], Sort.swp d j4 a, rfl, HO5.out, HG0.out.trans HG5.out, by rw [HE.out, HE2.out], by rw [HE.out, HE2.out]⟩
      · have hgtI : ¬ (i4 : Int) > (j4 : Int) := by omega
        have HE2 := Lib.hid ((part_go HSU.out HSD.out hgt hi4a hj4a).symm.trans HPE.out)
        have hi4n : i4 < n := by omega
        have hj4n : j4 < n := by omega
        obtain ⟨j5, hj5⟩ : ∃ j5, j4 - 1 = j5 := ⟨_, rfl⟩
        have hj5I : (j4 : Int) - 1 = (j5 : Int) := by omega
        have hj5w : IntKind.i64.wrap (j5 : Int) = (j5 : Int) := Go.IntWalk.i64_in _ (by omega)
        rw [hj5] at HE2
        have hBB := HBB.out.grown HG.out hneg
        have b0 : wc.cell? ⟨w.heap.size, 0, none⟩ = some (.func (.func 26) #[] #[.pointer (some ⟨B, 0, none⟩)]) := by simpa using hBB.cell 0
        have b1 : wc.cell? ⟨w.heap.size, 1, none⟩ = some (.func (.func sf) #[] #[.slice (some ⟨g, 0, none⟩) n c, th]) := by simpa using hBB.cell 1
        have bl := hBB.lt
        have HBW := Lib.hid hBB
        clear hBB
        obtain ⟨w5, hrun, ho5, hg5⟩ := swA HSW.out HOW.out hi4n hj4n
        have HO5 := Lib.hid ho5
        have HG5 := Lib.hid (hg5 _ HG.out)
        clear ho5 hg5
        have hj5e : j4 = j5 + 1 := by omega
        have HJ5 := Lib.hid hj5e
        clear hj5 hj5e
        go_wp2_with fail
        exact ⟨⟨i4 + 1, j5, Sort.swp d i4 j4, by omega, by have := HJ5.out; omega, by have := HJ5.out; omega, by have := HJ5.out; omega, by go_num, rfl, HE2.out, HO5.out, HG5.out⟩, by have := HJ5.out; simp [intOf]; omega⟩
end Go.Proofs.Ytegnedpikpfjfaa

/- Cells put in order by the library: which one is the pivot. -/
namespace Go.Proofs.Ytegnedpikpfjfaa
open Go.RowKit Go.Shelf
set_option linter.unusedVariables false
attribute [local go_sem ↓] Go.wp_at_zero Go.wp_at_succ

/-- What the order of two leaves: the two, in some order; the count of exchanges. -/
def OP2 (w : World) (p a b k : Nat) (e : Ending) (w' : World) : Prop := ∃ x y k' : Nat, e = .returned (.tuple #[.int .i64 x, .int .i64 y]) ∧ (x = a ∧ y = b ∨ x = b ∧ y = a) ∧ k' ≤ k + 1 ∧ Blk w' p 3 #[.int .i64 (k' : Int)] ∧ w.grownBy w' (some p)
set_option maxRecDepth 100000 in
set_option maxHeartbeats 6400000 in
theorem ord2A (sf : Nat) (th : Value) (base g n c B : Nat) (W : World) (d : Array C) (hW : SA W base g n c B d) (p k a b : Nat) (w : World) (hbw : Below W.heap.size W w) (hlim : W.heap.size ≤ p) (hp : Blk w p 3 #[.int .i64 (k : Int)]) (hk : k ≤ 2) (ha : a < n) (hb : b < n) :
    Calls Try.prog 56 #[.agg #[.func (.func 26) #[] #[.pointer (some ⟨B, 0, none⟩)], .func (.func sf) #[] #[.slice (some ⟨g, 0, none⟩) n c, th]], .int .i64 (a : Int), .int .i64 (b : Int), .pointer (some ⟨p, 0, none⟩)] w (OP2 w p a b k) := by
  have hpl := hp.lt
  have hpne : p ≠ w.heap.size := by omega
  have hneg : some w.heap.size ≠ some p := fun e => by injection e with e; omega
  have HS := Lib.hid ((hW.keep hbw).keep (bel_alloc (Below.refl _ _) (.cells #[.func (.func 26) #[] #[.pointer (some ⟨B, 0, none⟩)], .func (.func sf) #[] #[.slice (some ⟨g, 0, none⟩) n c, th]] 53)))
  have HBB := Lib.hid (Blk.new w 53 #[.func (.func 26) #[] #[.pointer (some ⟨B, 0, none⟩)], .func (.func sf) #[] #[.slice (some ⟨g, 0, none⟩) n c, th]])
  have HPP := Lib.hid (hp.alloc (.cells #[.func (.func 26) #[] #[.pointer (some ⟨B, 0, none⟩)], .func (.func sf) #[] #[.slice (some ⟨g, 0, none⟩) n c, th]] 53))
  have HG0 : Hid (w.grownBy (w.alloc (.cells #[.func (.func 26) #[] #[.pointer (some ⟨B, 0, none⟩)], .func (.func sf) #[] #[.slice (some ⟨g, 0, none⟩) n c, th]] 53)) (some p)) := grown_alloc1 (World.grownBy.refl _ _)
  have hkw : IntKind.i64.wrap ((k : Int) + 1) = (k : Int) + 1 := Go.IntWalk.i64_in _ (by omega)
  clear hW hbw hp
  go_enter Try.func56, Try.ntmps56
  cases hl : befC d[b]! d[a]! with
  | true =>
    have HL := Lib.hid hl
    clear hl
    go_wp2_with fail
    refine (lessA HS.out hb ha true HL.out.symm).mono ?_
    rintro e w1 ⟨rfl, hb1⟩
    have hP1 := HPP.out.below hb1
    have p0 : w1.cell? ⟨p, 0, none⟩ = some (.int .i64 (k : Int)) := by simpa using hP1.cell 0
    have pf : w1.frozen? ⟨p, 0, none⟩ = false := hP1.frozen 0
    have pl := hP1.lt
    have HP1 := Lib.hid hP1
    have HB1 := Lib.hid hb1
    clear hP1 hb1
    go_wp2_with fail
    go_ret2
    exact ⟨b, a, k + 1, rfl, .inr ⟨rfl, rfl⟩, Nat.le_refl _, by have := HP1.out.set_ 0 (.int .i64 ((k : Int) + 1)); simpa using this, grown_set (p := ⟨p, 0, none⟩) (grown_below HG0.out HB1.out) rfl _⟩
  | false =>
    have HL := Lib.hid hl
    clear hl
    go_wp2_with fail
    refine (lessA HS.out hb ha false HL.out.symm).mono ?_
    rintro e w1 ⟨rfl, hb1⟩
    go_wp2_with fail
    go_ret2
    exact ⟨a, b, k, rfl, .inl ⟨rfl, rfl⟩, by omega, HPP.out.below hb1, grown_below HG0.out hb1⟩
def OP3 (w : World) (p a b c : Nat) (e : Ending) (w' : World) : Prop := ∃ x k' : Nat, e = .returned (.int .i64 x) ∧ (x = a ∨ x = b ∨ x = c) ∧ k' ≤ 3 ∧ Blk w' p 3 #[.int .i64 (k' : Int)] ∧ w.grownBy w' (some p)
set_option maxRecDepth 100000 in
set_option maxHeartbeats 6400000 in
theorem medA (sf : Nat) (th : Value) (base g n c B : Nat) (W : World) (d : Array C) (hW : SA W base g n c B d) (p x y z : Nat) (w : World) (hbw : Below W.heap.size W w) (hlim : W.heap.size ≤ p) (hp : Blk w p 3 #[.int .i64 0]) (hx : x < n) (hy : y < n) (hz : z < n) :
    Calls Try.prog 55 #[.agg #[.func (.func 26) #[] #[.pointer (some ⟨B, 0, none⟩)], .func (.func sf) #[] #[.slice (some ⟨g, 0, none⟩) n c, th]], .int .i64 (x : Int), .int .i64 (y : Int), .int .i64 (z : Int), .pointer (some ⟨p, 0, none⟩)] w (OP3 w p x y z) := by
  have hpl := hp.lt
  have hneg : some w.heap.size ≠ some p := fun e => by injection e with e; omega
  have HW := Lib.hid hW
  have hr : ∀ k, some p = some k → W.heap.size ≤ k := fun k e => by injection e with e; omega
  have hb0 := bel_alloc hbw (.cells #[.func (.func 26) #[] #[.pointer (some ⟨B, 0, none⟩)], .func (.func sf) #[] #[.slice (some ⟨g, 0, none⟩) n c, th]] 53)
  have HBB := Lib.hid (Blk.new w 53 #[.func (.func 26) #[] #[.pointer (some ⟨B, 0, none⟩)], .func (.func sf) #[] #[.slice (some ⟨g, 0, none⟩) n c, th]])
  have HPP := Lib.hid (hp.alloc (.cells #[.func (.func 26) #[] #[.pointer (some ⟨B, 0, none⟩)], .func (.func sf) #[] #[.slice (some ⟨g, 0, none⟩) n c, th]] 53))
  obtain ⟨W0, hW0⟩ : ∃ W0, (w.alloc (.cells #[.func (.func 26) #[] #[.pointer (some ⟨B, 0, none⟩)], .func (.func sf) #[] #[.slice (some ⟨g, 0, none⟩) n c, th]] 53)) = W0 := ⟨_, rfl⟩
  have hg0 : w.grownBy W0 (some p) := by rw [← hW0]; exact grown_alloc1 (World.grownBy.refl _ _)
  rw [hW0] at HBB HPP hb0
  have HG0 := Lib.hid hg0
  have HB0 := Lib.hid hb0
  have HW0 := Lib.hid hW0
  clear hW hbw hp hg0 hb0 hW0
  go_enter Try.func55, Try.ntmps55
  go_wp2_with fail
  rw [HW0.out]
  refine (ord2A sf th base g n c B W d HW.out p 0 x y _ HB0.out hlim HPP.out (by omega) hx hy).mono ?_
  rintro e w1 ⟨x1, y1, k1, rfl, hxy1, hk1, hp1, hg1⟩
  have hx1 : x1 < n := by rcases hxy1 with ⟨rfl, rfl⟩ | ⟨rfl, rfl⟩ <;> assumption
  have hy1 : y1 < n := by rcases hxy1 with ⟨rfl, rfl⟩ | ⟨rfl, rfl⟩ <;> assumption
  have HB1 := Lib.hid (bel_grown HB0.out hg1 hr)
  have HG1 := Lib.hid (HG0.out.trans hg1)
  have HBB1 := Lib.hid (HBB.out.grown hg1 hneg)
  have HP1 := Lib.hid hp1
  have b0 : w1.cell? ⟨w.heap.size, 0, none⟩ = some (.func (.func 26) #[] #[.pointer (some ⟨B, 0, none⟩)]) := by simpa using HBB1.out.cell 0
  have b1 : w1.cell? ⟨w.heap.size, 1, none⟩ = some (.func (.func sf) #[] #[.slice (some ⟨g, 0, none⟩) n c, th]) := by simpa using HBB1.out.cell 1
  have bl := HBB1.out.lt
  have HXY1 := Lib.hid hxy1
  clear hp1 hg1 hxy1
  go_wp2_with fail
  refine (ord2A sf th base g n c B W d HW.out p k1 y1 z _ HB1.out hlim HP1.out (by omega) hy1 hz).mono ?_
  rintro e w2 ⟨x2, y2, k2, rfl, hxy2, hk2, hp2, hg2⟩
  have hx2 : x2 < n := by rcases hxy2 with ⟨rfl, rfl⟩ | ⟨rfl, rfl⟩ <;> assumption
  have HB2 := Lib.hid (bel_grown HB1.out hg2 hr)
  have HG2 := Lib.hid (HG1.out.trans hg2)
  have HBB2 := Lib.hid (HBB1.out.grown hg2 hneg)
  have HP2 := Lib.hid hp2
  clear b0 b1 bl
  have b0 : w2.cell? ⟨w.heap.size, 0, none⟩ = some (.func (.func 26) #[] #[.pointer (some ⟨B, 0, none⟩)]) := by simpa using HBB2.out.cell 0
  have b1 : w2.cell? ⟨w.heap.size, 1, none⟩ = some (.func (.func sf) #[] #[.slice (some ⟨g, 0, none⟩) n c, th]) := by simpa using HBB2.out.cell 1
  have bl := HBB2.out.lt
  have HXY2 := Lib.hid hxy2
  clear hp2 hg2 hxy2
  go_wp2_with fail
  refine (ord2A sf th base g n c B W d HW.out p k2 x1 x2 _ HB2.out hlim HP2.out (by omega) hx1 hx2).mono ?_
  rintro e w3 ⟨x3, y3, k3, rfl, hxy3, hk3, hp3, hg3⟩
  have HXY3 := Lib.hid hxy3
  have HP3 := Lib.hid hp3
  have HG3 := Lib.hid (HG2.out.trans hg3)
  clear hp3 hg3 hxy3 b0 b1 bl
  go_wp2_with fail
  go_ret
  refine ⟨y3, k3, rfl, ?_, by omega, HP3.out, HG3.out⟩
  have h1 := HXY1.out
  have h2 := HXY2.out
  have h3 := HXY3.out
  omega
/-- The pivot's place and the hint: the cells stay. -/
def CP (w : World) (a b : Nat) (e : Ending) (w' : World) : Prop := ∃ x h : Nat, e = .returned (.tuple #[.int .i64 x, .int .i64 h]) ∧ a ≤ x ∧ x < b ∧ h ≤ 1 ∧ Below w.heap.size w w'
set_option maxRecDepth 100000 in
set_option maxHeartbeats 6400000 in
theorem choA (sf : Nat) (th : Value) (base g n c B : Nat) (a b : Nat) (d : Array C) (w : World) (h : SA w base g n c B d) (hab : a + 13 ≤ b) (hb : b ≤ n) (hn : n < 50) :
    Calls Try.prog 46 #[.agg #[.func (.func 26) #[] #[.pointer (some ⟨B, 0, none⟩)], .func (.func sf) #[] #[.slice (some ⟨g, 0, none⟩) n c, th]], .int .i64 (a : Int), .int .i64 (b : Int)] w (CP w a b) := by
  have HS := Lib.hid h
  obtain ⟨l, hl⟩ : ∃ l, b - a = l := ⟨_, rfl⟩
  have hlI : (b : Int) - (a : Int) = (l : Int) := by omega
  have hlw : IntKind.i64.wrap (l : Int) = (l : Int) := Go.IntWalk.i64_in _ (by omega)
  obtain ⟨q, hq⟩ : ∃ q, l / 4 = q := ⟨_, rfl⟩
  have hqI : (l : Int).tdiv 4 = (q : Int) := by rw [Int.tdiv_eq_ediv_of_nonneg (by omega)]; omega
  have hqw : IntKind.i64.wrap (q : Int) = (q : Int) := Go.IntWalk.i64_in _ (by omega)
  obtain ⟨q2, hq2⟩ : ∃ q2, q * 2 = q2 := ⟨_, rfl⟩
  have hq2I : (q : Int) * 2 = (q2 : Int) := by omega
  have hq2w : IntKind.i64.wrap (q2 : Int) = (q2 : Int) := Go.IntWalk.i64_in _ (by omega)
  obtain ⟨q3, hq3⟩ : ∃ q3, q * 3 = q3 := ⟨_, rfl⟩
  have hq3I : (q : Int) * 3 = (q3 : Int) := by omega
  have hq3w : IntKind.i64.wrap (q3 : Int) = (q3 : Int) := Go.IntWalk.i64_in _ (by omega)
  obtain ⟨x, hx⟩ : ∃ x, a + q = x := ⟨_, rfl⟩
  have hxI : (a : Int) + (q : Int) = (x : Int) := by omega
  have hxw : IntKind.i64.wrap (x : Int) = (x : Int) := Go.IntWalk.i64_in _ (by omega)
  obtain ⟨y, hy⟩ : ∃ y, a + q2 = y := ⟨_, rfl⟩
  have hyI : (a : Int) + (q2 : Int) = (y : Int) := by omega
  have hyw : IntKind.i64.wrap (y : Int) = (y : Int) := Go.IntWalk.i64_in _ (by omega)
  obtain ⟨z, hz⟩ : ∃ z, a + q3 = z := ⟨_, rfl⟩
  have hzI : (a : Int) + (q3 : Int) = (z : Int) := by omega
  have hzw : IntKind.i64.wrap (z : Int) = (z : Int) := Go.IntWalk.i64_in _ (by omega)
  have hq1 : (q : Int) * 1 = (q : Int) := by omega
  have hl8 : (l : Int) ≥ 8 := by omega
  have hl50 : ¬ (l : Int) ≥ 50 := by omega
  have hx : x < n := by omega
  have hy : y < n := by omega
  have hz : z < n := by omega
  have hfin : ∀ t, (t = x ∨ t = y ∨ t = z) → a ≤ t ∧ t < b := fun t ht => by rcases ht with rfl | rfl | rfl <;> omega
  have HF := Lib.hid hfin
  obtain ⟨D, hD⟩ : ∃ D : Array Value, #[.func (.func 26) #[] #[.pointer (some ⟨B, 0, none⟩)], .func (.func sf) #[] #[.slice (some ⟨g, 0, none⟩) n c, th]] = D := ⟨_, rfl⟩
  have HBB := Lib.hid (Blk.new w 53 #[.func (.func 26) #[] #[.pointer (some ⟨B, 0, none⟩)], .func (.func sf) #[] #[.slice (some ⟨g, 0, none⟩) n c, th]])
  have HPN := Lib.hid (Blk.new (w.alloc (.cells #[.func (.func 26) #[] #[.pointer (some ⟨B, 0, none⟩)], .func (.func sf) #[] #[.slice (some ⟨g, 0, none⟩) n c, th]] 53)) 3 #[.int .i64 0])
  have HBN := Lib.hid (HBB.out.alloc (.cells #[.int .i64 0] 3))
  have HB0 := Lib.hid (bel_alloc (bel_alloc (Below.refl w.heap.size w) (.cells #[.func (.func 26) #[] #[.pointer (some ⟨B, 0, none⟩)], .func (.func sf) #[] #[.slice (some ⟨g, 0, none⟩) n c, th]] 53)) (.cells #[.int .i64 0] 3))
  have hlim : w.heap.size ≤ ((w.alloc (.cells #[.func (.func 26) #[] #[.pointer (some ⟨B, 0, none⟩)], .func (.func sf) #[] #[.slice (some ⟨g, 0, none⟩) n c, th]] 53))).heap.size := (bel_alloc (Below.refl w.heap.size w) (.cells #[.func (.func 26) #[] #[.pointer (some ⟨B, 0, none⟩)], .func (.func sf) #[] #[.slice (some ⟨g, 0, none⟩) n c, th]] 53)).size
  clear h hl hq hq2 hq3 hfin hD
  go_enter Try.func46, Try.ntmps46
  go_wp2_with fail
  refine (medA sf th base g n c B w d HS.out (w.heap.size + 1) x y z _ HB0.out (by omega) (by have := HPN.out; simpa using this) hx hy hz).mono ?_
  rintro e w1 ⟨t, k, rfl, ht, hk3, hp1, hg1⟩
  have p0 : w1.cell? ⟨w.heap.size + 1, 0, none⟩ = some (.int .i64 (k : Int)) := by simpa using hp1.cell 0
  have pf : w1.frozen? ⟨w.heap.size + 1, 0, none⟩ = false := hp1.frozen 0
  have pl := hp1.lt
  have HB1 := Lib.hid (bel_grown HB0.out hg1 (fun k e => by injection e with e; omega))
  have HT := Lib.hid (HF.out t ht)
  clear hp1 hg1 ht
  by_cases hk0 : k = 0
  · subst hk0
    go_wp2_with fail
    go_ret2
    exact ⟨t, 1, rfl, HT.out.1, HT.out.2, Nat.le_refl _, HB1.out⟩
  · have e0 : ((k : Int) == 0) = false := beq_eq_false_iff_ne.2 (by omega)
    have e1 : ((k : Int) == 12) = false := beq_eq_false_iff_ne.2 (by omega)
    clear hk0
    go_wp2_with fail
    go_ret2
    exact ⟨t, 0, rfl, HT.out.1, HT.out.2, by omega, HB1.out⟩
end Go.Proofs.Ytegnedpikpfjfaa

/- Cells put in order by the library: is a part in order already. -/
namespace Go.Proofs.Ytegnedpikpfjfaa
open Go.RowKit Go.Shelf
set_option linter.unusedVariables false
attribute [local go_sem ↓] Go.wp_at_zero Go.wp_at_succ

theorem sorted_go {d : Array C} {b t q : Nat} (hq : t = q + 1) (h : t < b) (hl : befC d[t]! d[q]! = false) : Sort.scanSorted befC d b t = Sort.scanSorted befC d b (t + 1) := by
  subst hq
  rw [Sort.scanSorted, if_pos (by simp only [Nat.add_sub_cancel, hl]; simp; exact h)]
theorem sorted_stop {d : Array C} {b t q : Nat} (hq : t = q + 1) (hl : befC d[t]! d[q]! = true) : Sort.scanSorted befC d b t = t := by
  subst hq
  rw [Sort.scanSorted, if_neg (by simp only [Nat.add_sub_cancel, hl]; simp)]
theorem sorted_end {d : Array C} {b t : Nat} (h : ¬ t < b) : Sort.scanSorted befC d b t = t := by
  rw [Sort.scanSorted, if_neg (by simp [h])]
theorem partial_yes {d : Array C} {a b : Nat} (h : Sort.scanSorted befC d b (a + 1) = b) : Sort.partialInsertionSort befC d a b = (d, true) := by
  unfold Sort.partialInsertionSort
  rw [Sort.partialIns]
  simp only [h, if_true]
theorem partial_no {d : Array C} {a b : Nat} (h : Sort.scanSorted befC d b (a + 1) ≠ b) (hb : b - a < 50) : Sort.partialInsertionSort befC d a b = (d, false) := by
  unfold Sort.partialInsertionSort
  rw [Sort.partialIns]
  simp only [if_neg h, if_pos hb]
set_option maxRecDepth 100000 in
set_option maxHeartbeats 6400000 in
theorem pisA (sf : Nat) (th : Value) (base g n c B : Nat) (a b : Nat) (d : Array C) (w : World) (h : SA w base g n c B d) (hab : a < b) (hb : b ≤ n) (hn : n < 50) :
    Calls Try.prog 48 #[.agg #[.func (.func 26) #[] #[.pointer (some ⟨B, 0, none⟩)], .func (.func sf) #[] #[.slice (some ⟨g, 0, none⟩) n c, th]], .int .i64 (a : Int), .int .i64 (b : Int)] w (fun e w' => ∃ v : Bool, e = .returned (.bool v) ∧ Sort.partialInsertionSort befC d a b = (d, v) ∧ Below w.heap.size w w') := by
  have HS := Lib.hid (h.keep (bel_alloc (Below.refl _ _) (.cells #[.func (.func 26) #[] #[.pointer (some ⟨B, 0, none⟩)], .func (.func sf) #[] #[.slice (some ⟨g, 0, none⟩) n c, th]] 53)))
  have HBB := Lib.hid (Blk.new w 53 #[.func (.func 26) #[] #[.pointer (some ⟨B, 0, none⟩)], .func (.func sf) #[] #[.slice (some ⟨g, 0, none⟩) n c, th]])
  obtain ⟨W0, hW0⟩ : ∃ W0, (w.alloc (.cells #[.func (.func 26) #[] #[.pointer (some ⟨B, 0, none⟩)], .func (.func sf) #[] #[.slice (some ⟨g, 0, none⟩) n c, th]] 53)) = W0 := ⟨_, rfl⟩
  have hb0 : Below w.heap.size w W0 := by rw [← hW0]; exact bel_alloc (Below.refl _ _) _
  rw [hW0] at HS HBB
  have HW0 := Lib.hid hW0
  have HB0 := Lib.hid hb0
  clear h hW0 hb0
  obtain ⟨i0, hi0⟩ : ∃ i0, a + 1 = i0 := ⟨_, rfl⟩
  have hi0I : (a : Int) + 1 = (i0 : Int) := by omega
  have hi0w : IntKind.i64.wrap (i0 : Int) = (i0 : Int) := Go.IntWalk.i64_in _ (by omega)
  obtain ⟨l, hl⟩ : ∃ l, b - a = l := ⟨_, rfl⟩
  have hlI : (b : Int) - (a : Int) = (l : Int) := by omega
  have hlw : IntKind.i64.wrap (l : Int) = (l : Int) := Go.IntWalk.i64_in _ (by omega)
  have hl50 : (l : Int) < 50 := by omega
  have hi0a : a < i0 := by omega
  have hi0b : i0 ≤ b := by omega
  have HI0 : Hid (a + 1 = i0) := hi0
  clear hi0 hl
  go_enter Try.func48, Try.ntmps48
  go_wp2_with fail
  rw [HW0.out]
  go_loopw [7, 8] (fun e7 e8 wr => e7 = .int .i64 (i0 : Int) ∧ e8 = .int .i64 0 ∧ Below W0.heap.size W0 wr) (fun e7 e8 _ => 0)
  case atStart => exact ⟨rfl, rfl, Below.refl _ _⟩
  case round =>
    obtain ⟨rfl, rfl, hbr⟩ := hrel
    have HB := Lib.hid hbr
    clear hbr
    go_upto_block 2 with fail
    go_cut [7] from 17 to 30 (fun ev wc => ∃ t : Nat, ev = .int .i64 t ∧ t ≤ b ∧ Sort.scanSorted befC d b i0 = t ∧ Below W0.heap.size W0 wc)
    case first =>
      go_wp2_with fail
      go_loopw [7] (fun ev wr => ∃ t : Nat, a < t ∧ t ≤ b ∧ ev = .int .i64 t ∧ Sort.scanSorted befC d b t = Sort.scanSorted befC d b i0 ∧ Below W0.heap.size W0 wr) (fun ev _ => b - (intOf ev).toNat)
      case atStart => exact ⟨i0, hi0a, hi0b, rfl, rfl, HB.out⟩
      case round =>
        clear HB
        obtain ⟨t, ht1, ht2, rfl, hsc, hbr⟩ := hrel
        have HSC := Lib.hid hsc
        have HB := Lib.hid hbr
        clear hsc hbr
        have hBB := HBB.out.below HB.out
        have b0 : wr.cell? ⟨w.heap.size, 0, none⟩ = some (.func (.func 26) #[] #[.pointer (some ⟨B, 0, none⟩)]) := by simpa using hBB.cell 0
        have b1 : wr.cell? ⟨w.heap.size, 1, none⟩ = some (.func (.func sf) #[] #[.slice (some ⟨g, 0, none⟩) n c, th]) := by simpa using hBB.cell 1
        have bl := hBB.lt
        clear hBB
        by_cases hlt : t < b
        · have hltI : (t : Int) < (b : Int) := by omega
          obtain ⟨q, hq⟩ : ∃ q, t = q + 1 := ⟨t - 1, by omega⟩
          have hqI : (t : Int) - 1 = (q : Int) := by omega
          have hqw : IntKind.i64.wrap (q : Int) = (q : Int) := Go.IntWalk.i64_in _ (by omega)
          have htn : t < n := by omega
          have hqn : q < n := by omega
          have HQ := Lib.hid hq
          clear hq
          cases hbf : befC d[t]! d[q]! with
          | false =>
            have HS2 : Hid (Sort.scanSorted befC d b (t + 1) = Sort.scanSorted befC d b i0) := (sorted_go HQ.out hlt hbf).symm.trans HSC.out
            have HBF := Lib.hid hbf
            clear hbf
            go_wp2_with fail
            refine (lessA (HS.out.keep HB.out) htn hqn false HBF.out.symm).mono ?_
            rintro e w1 ⟨rfl, hb1⟩
            go_wp2_with fail
            exact ⟨⟨t + 1, by omega, hlt, by go_num, HS2.out, bel_trans HB.out hb1⟩, by simp [intOf]; omega⟩
          | true =>
            have HS2 : Hid (Sort.scanSorted befC d b i0 = t) := HSC.out.symm.trans (sorted_stop HQ.out hbf)
            have HBF := Lib.hid hbf
            clear hbf
            go_wp2_with fail
            refine (lessA (HS.out.keep HB.out) htn hqn true HBF.out.symm).mono ?_
            rintro e w1 ⟨rfl, hb1⟩
            go_wp2_with fail
            go_meet
            exact ⟨t, rfl, ht2, HS2.out, bel_trans HB.out hb1⟩
        · have hltI : ¬ (t : Int) < (b : Int) := by omega
          have HS2 : Hid (Sort.scanSorted befC d b i0 = t) := HSC.out.symm.trans (sorted_end hlt)
          go_wp2_with fail
          go_meet
          exact ⟨t, rfl, ht2, HS2.out, HB.out⟩
    case rest =>
    clear HB
    obtain ⟨t, rfl, ht, hsc, hbr⟩ := hcut
    have HB := Lib.hid (bel_trans HB0.out hbr)
    by_cases htb : t = b
    · subst htb
      have HV := Lib.hid (partial_yes (by rw [HI0.out]; exact hsc))
      clear hsc hbr
      go_wp2_with fail
      go_ret
      exact ⟨true, rfl, HV.out, HB.out⟩
    · have hte : ((t : Int) == (b : Int)) = false := beq_eq_false_iff_ne.2 (by omega)
      have HV := Lib.hid (partial_no (d := d) (a := a) (b := b) (by rw [HI0.out, hsc]; exact htb) (by omega))
      clear hsc hbr htb
      go_wp2_with fail
      go_ret
      exact ⟨false, rfl, HV.out, HB.out⟩
end Go.Proofs.Ytegnedpikpfjfaa

/- The library's generator of numbers; the next power of two. -/
namespace Go.Proofs.Ytegnedpikpfjfaa
open Go.RowKit Go.Shelf
set_option linter.unusedVariables false
attribute [local go_sem ↓] Go.wp_at_zero Go.wp_at_succ

theorem set_twice (w : World) (b o : Nat) (v v' : Value) : (w.setCell ⟨b, o, none⟩ v).setCell ⟨b, o, none⟩ v' = w.setCell ⟨b, o, none⟩ v' := by
  rw [Sort.setCell_eq, Sort.setCell_eq, Sort.mapBlock_mapBlock, Sort.setCell_eq]
  congr 1
  funext c
  simp
set_option maxRecDepth 100000 in
set_option maxHeartbeats 6400000 in
theorem nxtA (p X : Nat) (hX : X < 18446744073709551616) (w : World) (hp : Blk w p 69 #[.int .u64 (X : Int)]) :
    Calls Try.prog 53 #[.pointer (some ⟨p, 0, none⟩)] w (fun e w' => ∃ Y : Nat, Y < 18446744073709551616 ∧ e = .returned (.int .u64 (Y : Int)) ∧ Blk w' p 69 #[.int .u64 (Y : Int)] ∧ w.grownBy w' (some p)) := by
  obtain ⟨A, hA⟩ : ∃ A : Nat, A = X ^^^ (X * 8192 % 18446744073709551616) := ⟨_, rfl⟩
  obtain ⟨D, hB⟩ : ∃ B : Nat, B = A ^^^ (A / 128) := ⟨_, rfl⟩
  obtain ⟨Y, hC⟩ : ∃ C : Nat, C = D ^^^ (D * 131072 % 18446744073709551616) := ⟨_, rfl⟩
  have lA : A < 18446744073709551616 := by rw [hA]; exact Nat.xor_lt_two_pow (n := 64) (by omega) (by omega)
  have lB : D < 18446744073709551616 := by rw [hB]; exact Nat.xor_lt_two_pow (n := 64) (by omega) (by omega)
  have lC : Y < 18446744073709551616 := by rw [hC]; exact Nat.xor_lt_two_pow (n := 64) (by omega) (by omega)
  have e1 : bits .xor .u64 (X : Int) (IntKind.u64.wrap ((X : Int) * 8192)) = (A : Int) := by
    rw [IntKind.wrap_u64, show ((X : Int) * 8192 % 18446744073709551616) = ((X * 8192 % 18446744073709551616 : Nat) : Int) by omega, bits_xor_u64_nat _ _ hX (by omega), hA]
  have e2 : bits .xor .u64 (A : Int) ((A : Int) / 128) = (D : Int) := by
    rw [show ((A : Int) / 128) = ((A / 128 : Nat) : Int) by omega, bits_xor_u64_nat _ _ lA (by omega), hB]
  have e3 : bits .xor .u64 (D : Int) (IntKind.u64.wrap ((D : Int) * 131072)) = (Y : Int) := by
    rw [IntKind.wrap_u64, show ((D : Int) * 131072 % 18446744073709551616) = ((D * 131072 % 18446744073709551616 : Nat) : Int) by omega, bits_xor_u64_nat _ _ lB (by omega), hC]
  clear hA hB hC
  have hss : ∀ v v', (w.setCell ⟨p, 0, none⟩ v).setCell ⟨p, 0, none⟩ v' = w.setCell ⟨p, 0, none⟩ v' := set_twice w p 0
  have hc : w.cell? ⟨p, 0, none⟩ = some (.int .u64 (X : Int)) := by simpa using hp.cell 0
  have hf : w.frozen? ⟨p, 0, none⟩ = false := hp.frozen 0
  have HP := Lib.hid hp
  have LC := Lib.hid lC
  clear hp
  go_enter Try.func53, Try.ntmps53
  go_wp2
  go_region
  all_goals go_wp2
  all_goals go_region
  all_goals go_wp2
  all_goals go_region
  all_goals go_wp2
  go_ret
  have hg := grown_set (p := ⟨p, 0, none⟩) (World.grownBy.refl w (some p)) rfl (.int .u64 (Y : Int))
  exact ⟨Y, LC.out, rfl, by have := (HP.out.set_ 0 (.int .u64 (Y : Int))); exact this, ⟨hg.os, hg.tape, hg.output, hg.size, hg.block⟩⟩
set_option maxRecDepth 100000 in
set_option maxHeartbeats 6400000 in
theorem l64A (x : Int) (w : World) (h0 : 13 ≤ x) (h1 : x ≤ 21) :
    Calls Try.prog 42 #[.int .u64 x] w (fun e w' => e = .returned (.int .i64 (Lib.bitLen x.toNat : Nat)) ∧ w' = w) := by
  have g1 : ¬ x ≥ 4294967296 := by omega
  have g2 : ¬ x ≥ 65536 := by omega
  have g3 : ¬ x ≥ 256 := by omega
  have g4 : Lib.len8tab.size = 256 := by decide +kernel
  have g5 : 0 ≤ x ∧ x < (Lib.len8tab.size : Int) := by omega
  clear g4
  go_enter Try.func42, Try.ntmps42
  go_wp2
  go_ret
  refine ⟨congrArg Ending.returned (congrArg (Value.int IntKind.i64) ?_), rfl⟩
  have hx : x = 13 ∨ x = 14 ∨ x = 15 ∨ x = 16 ∨ x = 17 ∨ x = 18 ∨ x = 19 ∨ x = 20 ∨ x = 21 := by omega
  rcases hx with rfl | rfl | rfl | rfl | rfl | rfl | rfl | rfl | rfl
  · exact (by decide +kernel : wrap64 (wrap64 ((Lib.len8tab[13]'(by decide +kernel)).toNat : Int)) = ((Lib.bitLen 13 : Nat) : Int))
  · exact (by decide +kernel : wrap64 (wrap64 ((Lib.len8tab[14]'(by decide +kernel)).toNat : Int)) = ((Lib.bitLen 14 : Nat) : Int))
  · exact (by decide +kernel : wrap64 (wrap64 ((Lib.len8tab[15]'(by decide +kernel)).toNat : Int)) = ((Lib.bitLen 15 : Nat) : Int))
  · exact (by decide +kernel : wrap64 (wrap64 ((Lib.len8tab[16]'(by decide +kernel)).toNat : Int)) = ((Lib.bitLen 16 : Nat) : Int))
  · exact (by decide +kernel : wrap64 (wrap64 ((Lib.len8tab[17]'(by decide +kernel)).toNat : Int)) = ((Lib.bitLen 17 : Nat) : Int))
  · exact (by decide +kernel : wrap64 (wrap64 ((Lib.len8tab[18]'(by decide +kernel)).toNat : Int)) = ((Lib.bitLen 18 : Nat) : Int))
  · exact (by decide +kernel : wrap64 (wrap64 ((Lib.len8tab[19]'(by decide +kernel)).toNat : Int)) = ((Lib.bitLen 19 : Nat) : Int))
  · exact (by decide +kernel : wrap64 (wrap64 ((Lib.len8tab[20]'(by decide +kernel)).toNat : Int)) = ((Lib.bitLen 20 : Nat) : Int))
  · exact (by decide +kernel : wrap64 (wrap64 ((Lib.len8tab[21]'(by decide +kernel)).toNat : Int)) = ((Lib.bitLen 21 : Nat) : Int))
theorem bl_small : ∀ n : Fin 22, 13 ≤ n.val → Lib.bitLen n.val = if n.val < 16 then 4 else 5 := by decide +kernel
theorem lenA (x k : Nat) (w : World) (h0 : 13 ≤ x) (h1 : x ≤ 21) (hk : Lib.bitLen x = k) :
    Calls Try.prog 30 #[.int .u64 (x : Int)] w (fun e w' => e = .returned (.int .i64 (k : Int)) ∧ w' = w) := by
  have HV := Lib.hid hk
  clear hk
  go_enter Try.func30, Try.ntmps30
  go_wp2_with fail
  refine (l64A (x : Int) _ (by omega) (by omega)).mono ?_
  rw [Int.toNat_natCast, HV.out]
  rintro e w' ⟨rfl, rfl⟩
  go_wp2_with fail
  go_ret
  exact ⟨rfl, rfl⟩
theorem np2A (x m : Nat) (w : World) (h0 : 13 ≤ x) (h1 : x ≤ 21) (hm : m = if x < 16 then 16 else 32) :
    Calls Try.prog 52 #[.int .i64 (x : Int)] w (fun e w' => e = .returned (.int .u64 (m : Int)) ∧ w' = w) := by
  have hx : IntKind.u64.wrap (x : Int) = (x : Int) := by rw [IntKind.wrap_u64]; omega
  have hv := bl_small ⟨x, by omega⟩ h0
  by_cases hc : x < 16
  · rw [if_pos hc] at hm hv
    subst hm
    clear hc
    have HV := Lib.hid hv
    clear hv
    go_enter Try.func52, Try.ntmps52
    go_wp2_with fail
    refine (lenA x 4 _ h0 h1 HV.out).mono ?_
    rintro e w' ⟨rfl, rfl⟩
    go_wp2_with fail
    go_ret
    exact ⟨rfl, rfl⟩
  · rw [if_neg hc] at hm hv
    subst hm
    clear hc
    have HV := Lib.hid hv
    clear hv
    go_enter Try.func52, Try.ntmps52
    go_wp2_with fail
    refine (lenA x 5 _ h0 h1 HV.out).mono ?_
    rintro e w' ⟨rfl, rfl⟩
    go_wp2_with fail
    go_ret
    exact ⟨rfl, rfl⟩
end Go.Proofs.Ytegnedpikpfjfaa

/- Cells put in order by the library: patterns broken (three exchanges within the part). -/
namespace Go.Proofs.Ytegnedpikpfjfaa
open Go.RowKit Go.Shelf
set_option linter.unusedVariables false
attribute [local go_sem ↓] Go.wp_at_zero Go.wp_at_succ

theorem grown_bel_bp {w w' : World} (h : Below w.heap.size w w') (r : Option Nat) : w.grownBy w' r := ⟨h.os, h.tape, h.output, h.size, fun k hk _ => h.block k hk⟩
theorem grown_comp_bp {a w w' : World} {r r' : Option Nat} (h : a.grownBy w r) (h' : w.grownBy w' r') (hr : ∀ g, r' = some g → r = some g ∨ a.heap.size ≤ g) : a.grownBy w' r :=
  ⟨h'.os.trans h.os, h'.tape.trans h.tape, h'.output.trans h.output, Nat.le_trans h.size h'.size, fun k hk hne => by
    rw [← h.block k hk hne]
    refine h'.block k (Nat.lt_of_lt_of_le hk h.size) (fun e => ?_)
    rcases hr k e.symm with e2 | e2
    · exact hne e2.symm
    · omega⟩
theorem SA.far {w w' : World} {base g n c B p : Nat} {d : Array C} (h : SA w base g n c B d) (hg : w.grownBy w' (some p)) (h1 : p ≠ g) (h2 : p ≠ B) : SA w' base g n c B d :=
  ⟨h.own.kept hg (.inr (fun e => h1 (by simpa [ownBlock_slice, ob] using e.symm))), keep_grown hg h.box (fun e => h2 (by injection e with e; exact e.symm)), h.ne⟩
set_option maxRecDepth 100000 in
set_option maxHeartbeats 6400000 in
theorem bpA (sf : Nat) (th : Value) (base g n c B : Nat) (hsw : Swaps sf th base g n c) (a b : Nat) (d0 : Array C) (w : World) (h : SA w base g n c B d0) (hab : a + 13 ≤ b) (hb : b ≤ n) (hn : n ≤ 21) :
    Calls Try.prog 45 #[.agg #[.func (.func 26) #[] #[.pointer (some ⟨B, 0, none⟩)], .func (.func sf) #[] #[.slice (some ⟨g, 0, none⟩) n c, th]], .int .i64 (a : Int), .int .i64 (b : Int)] w (AP w base g n c B fun d' => Sort.PermIn a b d0 d') := by
  have hgl := h.lt.2
  have hBl : B < w.heap.size := World.block_lt_of_cell? w _ h.box
  have hsz := h.size
  have HSW := Lib.hid hsw
  obtain ⟨l, hl⟩ : ∃ l, b - a = l := ⟨_, rfl⟩
  have hlI : (b : Int) - (a : Int) = (l : Int) := by omega
  have hlw : IntKind.i64.wrap (l : Int) = (l : Int) := Go.IntWalk.i64_in _ (by omega)
  obtain ⟨q, hq⟩ : ∃ q, l / 4 = q := ⟨_, rfl⟩
  have hqI : (l : Int).tdiv 4 = (q : Int) := by rw [Int.tdiv_eq_ediv_of_nonneg (by omega)]; omega
  have hqw : IntKind.i64.wrap (q : Int) = (q : Int) := Go.IntWalk.i64_in _ (by omega)
  obtain ⟨q2, hq2⟩ : ∃ q2, q * 2 = q2 := ⟨_, rfl⟩
  have hq2I : (q : Int) * 2 = (q2 : Int) := by omega
  have hq2w : IntKind.i64.wrap (q2 : Int) = (q2 : Int) := Go.IntWalk.i64_in _ (by omega)
  obtain ⟨s, hs⟩ : ∃ s, a + q2 = s := ⟨_, rfl⟩
  have hsI : (a : Int) + (q2 : Int) = (s : Int) := by omega
  have hsw : IntKind.i64.wrap (s : Int) = (s : Int) := Go.IntWalk.i64_in _ (by omega)
  obtain ⟨lo, hlo⟩ : ∃ lo, s - 1 = lo := ⟨_, rfl⟩
  have hloI : (s : Int) - 1 = (lo : Int) := by omega
  have hlow : IntKind.i64.wrap (lo : Int) = (lo : Int) := Go.IntWalk.i64_in _ (by omega)
  obtain ⟨hi, hhi⟩ : ∃ hi, s + 1 = hi := ⟨_, rfl⟩
  have hhiI : (s : Int) + 1 = (hi : Int) := by omega
  have hhiw : IntKind.i64.wrap (hi : Int) = (hi : Int) := Go.IntWalk.i64_in _ (by omega)
  have hl8 : (l : Int) ≥ 8 := by omega
  have hl13 : 13 ≤ l := by omega
  have hl21 : l ≤ 21 := by omega
  have hlu : IntKind.u64.wrap (l : Int) = (l : Int) := by rw [IntKind.wrap_u64]; omega
  obtain ⟨m, hm⟩ : ∃ m : Nat, m = if l < 16 then 16 else 32 := ⟨_, rfl⟩
  have hm1 : 16 ≤ m ∧ m ≤ 32 ∧ m ≤ 2 * l := by rw [hm]; split <;> omega
  obtain ⟨m1, hmm⟩ : ∃ m1, m - 1 = m1 := ⟨_, rfl⟩
  have hm1I : (m : Int) - 1 = (m1 : Int) := by omega
  have hm1w : IntKind.i64.wrap (m1 : Int) = (m1 : Int) := Go.IntWalk.i64_in _ (by omega)
  have hm1u : IntKind.u64.wrap (m1 : Int) = (m1 : Int) := by rw [IntKind.wrap_u64]; omega
  have hloa : a ≤ lo := by omega
  have hhib : hi < b := by omega
  have hlohi : lo ≤ hi := by omega
  have hb1 := bel_alloc (bel_alloc (Below.refl w.heap.size w) (.cells #[.func (.func 26) #[] #[.pointer (some ⟨B, 0, none⟩)], .func (.func sf) #[] #[.slice (some ⟨g, 0, none⟩) n c, th]] 53)) (.cells #[.int .u64 (l : Int)] 69)
  have hP := Blk.new (w.alloc (.cells #[.func (.func 26) #[] #[.pointer (some ⟨B, 0, none⟩)], .func (.func sf) #[] #[.slice (some ⟨g, 0, none⟩) n c, th]] 53)) 69 #[.int .u64 (l : Int)]
  rw [show ((w.alloc (.cells #[.func (.func 26) #[] #[.pointer (some ⟨B, 0, none⟩)], .func (.func sf) #[] #[.slice (some ⟨g, 0, none⟩) n c, th]] 53))).heap.size = w.heap.size + 1 by simp] at hP
  have hBB := (Blk.new w 53 #[.func (.func 26) #[] #[.pointer (some ⟨B, 0, none⟩)], .func (.func sf) #[] #[.slice (some ⟨g, 0, none⟩) n c, th]]).alloc (.cells #[.int .u64 (l : Int)] 69)
  obtain ⟨W1, hW1⟩ : ∃ W1, ((w.alloc (.cells #[.func (.func 26) #[] #[.pointer (some ⟨B, 0, none⟩)], .func (.func sf) #[] #[.slice (some ⟨g, 0, none⟩) n c, th]] 53))).alloc (.cells #[.int .u64 (l : Int)] 69) = W1 := ⟨_, rfl⟩
  rw [hW1] at hP hBB hb1
  have HW1 := Lib.hid hW1
  have HS := Lib.hid (h.keep hb1)
  have HBB := Lib.hid hBB
  have HP := Lib.hid hP
  have HG1 : Hid (w.grownBy W1 (some g)) := grown_bel_bp hb1 _
  have HM := Lib.hid hm
  have HM1 := Lib.hid hmm
  have HL := Lib.hid hl
  clear hsw h hP hBB hb1 hW1 hm hmm hl hq hq2 hs hlo hhi
  go_enter Try.func45, Try.ntmps45
  go_wp2_with fail
  rw [HW1.out]
  refine (np2A l m _ hl13 hl21 HM.out).mono ?_
  rintro e w' ⟨rfl, rfl⟩
  go_wp2_with fail
  go_loopw [9] (fun e9 wr => ∃ (t X : Nat) (d : Array C), lo ≤ t ∧ t ≤ hi + 1 ∧ X < 18446744073709551616 ∧ e9 = .int .i64 t ∧ Sort.PermIn a b d0 d ∧ SA wr base g n c B d ∧ Blk wr w.heap.size 53 #[.func (.func 26) #[] #[.pointer (some ⟨B, 0, none⟩)], .func (.func sf) #[] #[.slice (some ⟨g, 0, none⟩) n c, th]] ∧ Blk wr (w.heap.size + 1) 69 #[.int .u64 (X : Int)] ∧ w.grownBy wr (some g)) (fun e9 _ => hi + 1 - (intOf e9).toNat)
  case atStart => exact ⟨lo, l, d0, Nat.le_refl _, by omega, by omega, rfl, Sort.permIn_refl _ _ _, HS.out, HBB.out, HP.out, HG1.out⟩
  case round =>
    clear HS HBB HP HG1
    obtain ⟨t, X, d, ht1, ht2, hX, rfl, hpm, hown, hBB, hP, hg⟩ := hrel
    have HPM := Lib.hid hpm
    have HOW := Lib.hid hown
    have HG := Lib.hid hg
    have HBB := Lib.hid hBB
    have HP := Lib.hid hP
    clear hpm hown hBB hP hg
    by_cases hth : t ≤ hi
    · have hthI : (t : Int) ≤ (hi : Int) := by omega
      go_wp2_with fail
      refine (nxtA _ X hX _ HP.out).mono ?_
      rintro e w1 ⟨Y, hY, rfl, hP1, hg1⟩
      obtain ⟨o, ho⟩ : ∃ o : Nat, Y &&& m1 = o := ⟨_, rfl⟩
      have hom : o ≤ m1 := by rw [← ho]; exact Nat.and_le_right
      have hand : bits .and .u64 (Y : Int) (m1 : Int) = (o : Int) := by rw [bits_and_u64_nat _ _ hY (by omega), ho]
      have how : IntKind.i64.wrap (o : Int) = (o : Int) := Go.IntWalk.i64_in _ (by omega)
      have HP1 := Lib.hid hP1
      have HBB1 := Lib.hid (HBB.out.grown hg1 (by intro e; injection e with e; omega))
      have HS1 := Lib.hid (HOW.out.far hg1 (by omega) (by omega))
      have HG1 := Lib.hid (grown_comp_bp HG.out hg1 (fun g e => .inr (by injection e with e; omega)))
      have b0 : w1.cell? ⟨w.heap.size, 0, none⟩ = some (.func (.func 26) #[] #[.pointer (some ⟨B, 0, none⟩)]) := by simpa using HBB1.out.cell 0
      have b1 : w1.cell? ⟨w.heap.size, 1, none⟩ = some (.func (.func sf) #[] #[.slice (some ⟨g, 0, none⟩) n c, th]) := by simpa using HBB1.out.cell 1
      have bl := HBB1.out.lt
      clear hP1 hg1 ho
      have htn : t < n := by omega
      have htb : t < b := by omega
      have hta : a ≤ t := by omega
      by_cases hol : l ≤ o
      · have holI : (o : Int) ≥ (l : Int) := by omega
        obtain ⟨o2, ho2⟩ : ∃ o2, o - l = o2 := ⟨_, rfl⟩
        have ho2I : (o : Int) - (l : Int) = (o2 : Int) := by omega
        have ho2w : IntKind.i64.wrap (o2 : Int) = (o2 : Int) := Go.IntWalk.i64_in _ (by omega)
        obtain ⟨y, hy⟩ : ∃ y, a + o2 = y := ⟨_, rfl⟩
        have hyI : (a : Int) + (o2 : Int) = (y : Int) := by omega
        have hyw : IntKind.i64.wrap (y : Int) = (y : Int) := Go.IntWalk.i64_in _ (by omega)
        have hyb : y < b := by have := HL.out; have := HM1.out; omega
        have hya : a ≤ y := by omega
        obtain ⟨w2, hrun, ho2, hg2⟩ := swA HSW.out HS1.out htn (by omega : y < n)
        have HO2' := Lib.hid ho2
        have HG2 := Lib.hid (hg2 _ (World.grownBy.refl _ _))
        clear ho2 hg2 hy
        go_wp2_with fail
        exact ⟨⟨t + 1, Y, Sort.swp d t y, by omega, by omega, hY, by go_num, Sort.permIn_trans _ _ _ _ _ HPM.out (Sort.swp_permIn _ _ _ _ _ hta htb hya hyb (by rw [HS1.out.size]; exact hb)), HO2'.out, HBB1.out.grown HG2.out (by intro e; injection e with e; omega), HP1.out.grown HG2.out (by intro e; injection e with e; omega), HG1.out.trans HG2.out⟩, by simp [intOf]; omega⟩
      · have holI : ¬ (o : Int) ≥ (l : Int) := by omega
        obtain ⟨y, hy⟩ : ∃ y, a + o = y := ⟨_, rfl⟩
        have hyI : (a : Int) + (o : Int) = (y : Int) := by omega
        have hyw : IntKind.i64.wrap (y : Int) = (y : Int) := Go.IntWalk.i64_in _ (by omega)
        have hyb : y < b := by have := HL.out; omega
        have hya : a ≤ y := by omega
        obtain ⟨w2, hrun, ho2, hg2⟩ := swA HSW.out HS1.out htn (by omega : y < n)
        have HO2' := Lib.hid ho2
        have HG2 := Lib.hid (hg2 _ (World.grownBy.refl _ _))
        clear ho2 hg2 hy
        go_wp2_with fail
        exact ⟨⟨t + 1, Y, Sort.swp d t y, by omega, by omega, hY, by go_num, Sort.permIn_trans _ _ _ _ _ HPM.out (Sort.swp_permIn _ _ _ _ _ hta htb hya hyb (by rw [HS1.out.size]; exact hb)), HO2'.out, HBB1.out.grown HG2.out (by intro e; injection e with e; omega), HP1.out.grown HG2.out (by intro e; injection e with e; omega), HG1.out.trans HG2.out⟩, by simp [intOf]; omega⟩
    · have hthI : ¬ (t : Int) ≤ (hi : Int) := by omega
      go_wp2_with fail
      go_end0
      exact ⟨rfl, d, HOW.out, HG.out, HPM.out⟩
end Go.Proofs.Ytegnedpikpfjfaa

/- Cells put in order by the library: what is left to do, plainly. -/
namespace Go.Proofs.Ytegnedpikpfjfaa
open Go.RowKit
set_option linter.unusedVariables false
theorem befC_swo : Sort.SWO befC where
  irrefl x := befC_sto.irr x
  trans _ _ _ h k := befC_trans h k
  ntrans x y z h k := by
    cases h3 : befC x z with
    | false => rfl
    | true =>
      by_cases e : y = z
      · subst e; rw [h] at h3; exact absurd h3 (by decide)
      · cases h4 : befC z y with
        | true => rw [befC_trans h3 h4] at h; exact absurd h (by decide)
        | false => exact absurd (befC_sto.tot k h4) e
/-- The part a1 to b1 is left: whatever puts it in order has put the whole in order. -/
structure Rest (a b : Nat) (d0 : Array C) (a1 b1 : Nat) (d : Array C) : Prop where
  bel : Sort.Below befC a1 b1 d
  fin : ∀ R, Sort.PermIn a1 b1 d R → Sort.SortedIn befC a1 b1 R → Sort.PermIn a b d0 R ∧ Sort.SortedIn befC a b R
section
variable {a b a1 b1 pv mid : Nat} {d0 d d' d4 : Array C}
theorem Rest.start (h : Sort.Below befC a b d0) : Rest a b d0 a b d0 := ⟨h, fun R h1 h2 => ⟨h1, h2⟩⟩
theorem Rest.perm (h : Rest a b d0 a1 b1 d) (hb : b1 ≤ d.size) (hp : Sort.PermIn a1 b1 d d') : Rest a b d0 a1 b1 d' :=
  ⟨Sort.Below.permA Sort.permIn_all hb h.bel hp, fun R h1 h2 => h.fin R (Sort.permIn_trans _ _ _ _ _ hp h1) h2⟩
theorem Rest.ins (h : Rest a b d0 a1 b1 d) (ha : a1 ≤ b1) (hb : b1 ≤ d.size) (he : d' = Sort.insertionSort befC d a1 b1) : Sort.PermIn a b d0 d' ∧ Sort.SortedIn befC a b d' := by
  subst he
  have k := Sort.insertionSort_holds (lt := befC) befC_swo d a1 b1 ha hb
  exact h.fin _ k.1 k.2
theorem Rest.heap (h : Rest a b d0 a1 b1 d) (ha : a1 ≤ b1) (hb : b1 ≤ d.size) (he : d' = Sort.heapSort befC d a1 b1) : Sort.PermIn a b d0 d' ∧ Sort.SortedIn befC a b d' := by
  subst he
  have k := Sort.heapSort_holds (lt := befC) befC_swo d a1 b1 ha hb
  exact h.fin _ k.1 k.2
theorem Rest.part (h : Rest a b d0 a1 b1 d) (ha : a1 < b1) (hb : b1 ≤ d.size) (he : Sort.partialInsertionSort befC d a1 b1 = (d, true)) : Sort.PermIn a b d0 d ∧ Sort.SortedIn befC a b d := by
  have k := Sort.partialInsertionSort_holds (lt := befC) befC_swo d a1 b1 ha hb h.bel
  rw [he] at k
  exact h.fin _ k.1 (k.2 rfl)
theorem Rest.equal (h : Rest a b d0 a1 b1 d) (h0 : 0 < a1) (hp1 : a1 ≤ pv) (hp2 : pv < b1) (hb : b1 ≤ d.size) (hl : befC d[a1 - 1]! d[pv]! = false) (hx : (Sort.partitionEqual befC d a1 b1 pv).1 = mid) (hd : d' = (Sort.partitionEqual befC d a1 b1 pv).2) :
    a1 < mid ∧ mid ≤ b1 ∧ Rest a b d0 mid b1 d' := by
  obtain ⟨k1, k2, k3, k4, k5⟩ := Sort.round_eq befC_swo (Sort.partitionEqual_holds befC) (d4 := d') (mid := mid) h0 hp1 hp2 hb h.bel hl (Prod.ext hx hd.symm)
  exact ⟨k1, k2, k4, fun R h1 h2 => have q := k5 R h1 h2; h.fin R q.1 q.2⟩
theorem Rest.split (h : Rest a b d0 a1 b1 d) (hp1 : a1 ≤ pv) (hp2 : pv < b1) (hb : b1 ≤ d.size) (hx : (Sort.partition befC d a1 b1 pv).1 = mid) (hd : d' = (Sort.partition befC d a1 b1 pv).2.2) :
    a1 ≤ mid ∧ mid < b1 ∧ Sort.Below befC a1 mid d' ∧ Sort.Below befC (mid + 1) b1 d' ∧
    (∀ L, Sort.PermIn a1 mid d' L → Sort.SortedIn befC a1 mid L → Rest a b d0 (mid + 1) b1 L) ∧
    (∀ L, Sort.PermIn (mid + 1) b1 d' L → Sort.SortedIn befC (mid + 1) b1 L → Rest a b d0 a1 mid L) := by
  obtain ⟨k1, k2, k3, k4, k5, k6, k7⟩ := Sort.round_part befC_swo (Sort.partition_holds befC) (d4 := d') (mid := mid) (ap := (Sort.partition befC d a1 b1 pv).2.1) hp1 hp2 hb h.bel (Prod.ext hx (Prod.ext rfl hd.symm))
  refine ⟨k1, k2, k4, k5, fun L h1 h2 => ?_, fun L h1 h2 => ?_⟩
  · have q := k6 L h1 h2
    exact ⟨q.1, fun R h3 h4 => have r := q.2 R h3 h4; h.fin R r.1 r.2⟩
  · have q := k7 L h1 h2
    exact ⟨q.1, fun R h3 h4 => have r := q.2 R h3 h4; h.fin R r.1 r.2⟩
end
end Go.Proofs.Ytegnedpikpfjfaa

/- Cells put in order by the library: the whole sort. -/
namespace Go.Proofs.Ytegnedpikpfjfaa
open Go.RowKit Go.Shelf
set_option linter.unusedVariables false
attribute [local go_sem ↓] Go.wp_at_zero Go.wp_at_succ

set_option maxRecDepth 100000 in
set_option maxHeartbeats 12800000 in
theorem pdqA_step (sf : Nat) (th : Value) (base g n c B : Nat) (hsw : Swaps sf th base g n c) (m : Nat) (hn : n ≤ 21)
    (IH : ∀ (a b lim : Nat) (d0 : Array C) (w : World), SA w base g n c B d0 → b - a < m → a ≤ b → b ≤ n → lim ≤ 64 → Sort.Below befC a b d0 → Calls Try.prog 31 #[.agg #[.func (.func 26) #[] #[.pointer (some ⟨B, 0, none⟩)], .func (.func sf) #[] #[.slice (some ⟨g, 0, none⟩) n c, th]], .int .i64 (a : Int), .int .i64 (b : Int), .int .i64 (lim : Int)] w (AP w base g n c B fun d' => Sort.PermIn a b d0 d' ∧ Sort.SortedIn befC a b d'))
    (a b lim : Nat) (d0 : Array C) (w : World) (h : SA w base g n c B d0) (hm : b - a ≤ m) (hab : a ≤ b) (hb : b ≤ n) (hlim : lim ≤ 64) (hbel : Sort.Below befC a b d0) :
    Calls Try.prog 31 #[.agg #[.func (.func 26) #[] #[.pointer (some ⟨B, 0, none⟩)], .func (.func sf) #[] #[.slice (some ⟨g, 0, none⟩) n c, th]], .int .i64 (a : Int), .int .i64 (b : Int), .int .i64 (lim : Int)] w (AP w base g n c B fun d' => Sort.PermIn a b d0 d' ∧ Sort.SortedIn befC a b d') := by
  have hgl := h.lt.2
  have hneg : some w.heap.size ≠ some g := fun e => by injection e with e; omega
  have HS := Lib.hid (h.keep (bel_alloc (Below.refl _ _) (.cells #[.func (.func 26) #[] #[.pointer (some ⟨B, 0, none⟩)], .func (.func sf) #[] #[.slice (some ⟨g, 0, none⟩) n c, th]] 53)))
  have HSW := Lib.hid hsw
  have HBB := Lib.hid (Blk.new w 53 #[.func (.func 26) #[] #[.pointer (some ⟨B, 0, none⟩)], .func (.func sf) #[] #[.slice (some ⟨g, 0, none⟩) n c, th]])
  obtain ⟨W0, hW0⟩ : ∃ W0, (w.alloc (.cells #[.func (.func 26) #[] #[.pointer (some ⟨B, 0, none⟩)], .func (.func sf) #[] #[.slice (some ⟨g, 0, none⟩) n c, th]] 53)) = W0 := ⟨_, rfl⟩
  rw [hW0] at HS HBB
  have hw0 : w.grownBy W0 (some g) := by rw [← hW0]; exact grown_alloc1 (World.grownBy.refl _ _)
  have HW0 := Lib.hid hW0
  have HG0 := Lib.hid hw0
  have hn40 : n ≤ 1099511627776 := by omega
  have HI := Lib.hid IH
  have HBE := Lib.hid hbel
  clear hsw h hW0 hw0 IH hbel
  go_enter Try.func31, Try.ntmps31
  go_wp2_with fail
  rw [HW0.out]
  go_loopw [1, 2, 3, 8, 9] (fun e1 e2 e3 e8 e9 wr => ∃ (x y lm : Nat) (u v : Bool) (d : Array C), a ≤ x ∧ x ≤ y ∧ y ≤ b ∧ lm ≤ 64 ∧ e1 = .int .i64 x ∧ e2 = .int .i64 y ∧ e3 = .int .i64 lm ∧ e8 = .bool u ∧ e9 = .bool v ∧ Rest a b d0 x y d ∧ SA wr base g n c B d ∧ W0.grownBy wr (some g)) (fun e1 e2 _ _ _ _ => (intOf e2 - intOf e1).toNat)
  case atStart => exact ⟨a, b, lim, true, true, d0, Nat.le_refl _, hab, Nat.le_refl _, hlim, rfl, rfl, rfl, rfl, rfl, Rest.start HBE.out, HS.out, World.grownBy.refl _ _⟩
  case round =>
    clear HS HBE
    obtain ⟨x, y, lm, u, v, d, hax, hxy, hyb, hlm, rfl, rfl, rfl, rfl, rfl, hr, hown, hg⟩ := hrel
    have HR := Lib.hid hr
    have HOW := Lib.hid hown
    have HG := Lib.hid hg
    have hyn : y ≤ n := by omega
    have HYD : Hid (y ≤ d.size) := by show _ ≤ _; rw [hown.size]; exact hyn
    clear hr hown hg
    obtain ⟨l, hl⟩ : ∃ l, y - x = l := ⟨_, rfl⟩
    have hlI : (y : Int) - (x : Int) = (l : Int) := by omega
    have hlw : IntKind.i64.wrap (l : Int) = (l : Int) := Go.IntWalk.i64_in _ (by omega)
    have hBB := HBB.out.grown HG.out hneg
    have b0 : wr.cell? ⟨w.heap.size, 0, none⟩ = some (.func (.func 26) #[] #[.pointer (some ⟨B, 0, none⟩)]) := by simpa using hBB.cell 0
    have b1 : wr.cell? ⟨w.heap.size, 1, none⟩ = some (.func (.func sf) #[] #[.slice (some ⟨g, 0, none⟩) n c, th]) := by simpa using hBB.cell 1
    have bl := hBB.lt
    clear hBB
    by_cases hs : l ≤ 12
    · have hsI : (l : Int) ≤ 12 := by omega
      clear hl
      go_wp2_with fail
      refine (insA sf th base g n c B HSW.out x y d _ HOW.out hxy hyn hn40).mono ?_
      rintro e w1 ⟨rfl, d1, hS1, hg1, he1⟩
      have HS1 := Lib.hid hS1
      have HG1 := Lib.hid (HG0.out.trans (HG.out.trans hg1))
      have HE := Lib.hid (HR.out.ins hxy HYD.out he1)
      clear hS1 hg1 he1
      go_wp2_with fail
      go_end0
      exact ⟨rfl, d1, HS1.out, HG1.out, HE.out⟩
    · have hsI : ¬ (l : Int) ≤ 12 := by omega
      have hxy13 : x + 13 ≤ y := by omega
      have hxlt : x < y := by omega
      have HL := Lib.hid hl
      clear hl
      by_cases hl0 : lm = 0
      · subst hl0
        go_wp2_with fail
        refine (heapA sf th base g n c B HSW.out x y d _ HOW.out hxlt hyn hn40).mono ?_
        rintro e w1 ⟨rfl, d1, hS1, hg1, he1⟩
        have HS1 := Lib.hid hS1
        have HG1 := Lib.hid (HG0.out.trans (HG.out.trans hg1))
        have HE := Lib.hid (HR.out.heap hxy HYD.out he1)
        clear hS1 hg1 he1
        go_wp2_with fail
        go_end0
        exact ⟨rfl, d1, HS1.out, HG1.out, HE.out⟩
      · have hl0I : ((lm : Int) == 0) = false := beq_eq_false_iff_ne.2 (by omega)
        obtain ⟨lm1, hlm1⟩ : ∃ lm1, lm - 1 = lm1 := ⟨_, rfl⟩
        have hlm1I : (lm : Int) - 1 = (lm1 : Int) := by omega
        have hlm1w : IntKind.i64.wrap (lm1 : Int) = (lm1 : Int) := Go.IntWalk.i64_in _ (by omega)
        have hlm64 : lm1 ≤ 64 := by omega
        clear hl0 hlm1
        go_upto_if 35 with fail
        go_cut [3] from 36 to 41 (fun e3 wc => ∃ (l2 : Nat) (d1 : Array C), e3 = .int .i64 l2 ∧ l2 ≤ 64 ∧ Sort.PermIn x y d d1 ∧ SA wc base g n c B d1 ∧ W0.grownBy wc (some g))
        case first =>
          cases u with
          | false =>
            go_wp2_with fail
            refine (bpA sf th base g n c B HSW.out x y d _ HOW.out hxy13 hyn hn).mono ?_
            rintro e w1 ⟨rfl, d1, hS1, hg1, he1⟩
            have HS1 := Lib.hid hS1
            have HG1 := Lib.hid (HG.out.trans hg1)
            have HE := Lib.hid he1
            clear hS1 hg1 he1
            go_wp2_with fail
            go_meet
            exact ⟨lm1, d1, rfl, hlm64, HE.out, HS1.out, HG1.out⟩
          | true =>
            go_wp2_with fail
            go_meet
            exact ⟨lm, d, rfl, hlm, Sort.permIn_refl _ _ _, HOW.out, HG.out⟩
        case rest =>
        obtain ⟨l2, d1, rfl, hl264, hpm, hown, hg⟩ := hcut
        have HR1 := Lib.hid (HR.out.perm HYD.out hpm)
        clear HOW HG HR HYD hpm b0 b1 bl hlm64 hlm1I hlm1w hl0I hlm
        have HYD : Hid (y ≤ d1.size) := by show _ ≤ _; rw [hown.size]; exact hyn
        have HOW := Lib.hid hown
        have HG := Lib.hid hg
        clear hown hg
        have hBB := HBB.out.grown HG.out hneg
        have b0 : wc.cell? ⟨w.heap.size, 0, none⟩ = some (.func (.func 26) #[] #[.pointer (some ⟨B, 0, none⟩)]) := by simpa using hBB.cell 0
        have b1 : wc.cell? ⟨w.heap.size, 1, none⟩ = some (.func (.func sf) #[] #[.slice (some ⟨g, 0, none⟩) n c, th]) := by simpa using hBB.cell 1
        have bl := hBB.lt
        clear hBB
        go_wp2_with fail
        refine (choA sf th base g n c B x y d1 _ HOW.out hxy13 hyn (by omega)).mono ?_
        rintro e w3 ⟨pv, hh, rfl, hpx, hpy, hh1, hb3⟩
        have HOW := Lib.hid (HOW.out.keep hb3)
        have HG := Lib.hid (grown_below HG.out hb3)
        have hh2 : ((hh : Int) == 2) = false := beq_eq_false_iff_ne.2 (by omega)
        clear hb3
        clear b0 b1 bl
        have hBB := HBB.out.grown HG.out hneg
        have b0 : w3.cell? ⟨w.heap.size, 0, none⟩ = some (.func (.func 26) #[] #[.pointer (some ⟨B, 0, none⟩)]) := by simpa using hBB.cell 0
        have b1 : w3.cell? ⟨w.heap.size, 1, none⟩ = some (.func (.func sf) #[] #[.slice (some ⟨g, 0, none⟩) n c, th]) := by simpa using hBB.cell 1
        have bl := hBB.lt
        clear hBB
        go_upto_region 16 with fail
        go_cut [68] (fun ec wx => ∃ cc : Bool, ec = .bool cc ∧ wx = w3)
        case first =>
          cases u with
          | false =>
            go_wp2_with fail
            go_meet
            exact ⟨false, rfl, rfl⟩
          | true =>
            cases v with
            | false =>
              go_wp2_with fail
              go_meet
              exact ⟨false, rfl, rfl⟩
            | true =>
              go_wp2_with fail
              go_meet
              exact ⟨_, rfl, rfl⟩
        case rest =>
        obtain ⟨cc, rfl, hwx⟩ := hcut
        have hwx2 := hwx.symm
        clear hwx
        subst hwx2
        go_upto_if 68 with fail
        go_cut [12] from 69 to 72 (fun e12 wx => Below w3.heap.size w3 wx)
        case first =>
          cases cc with
          | false =>
            go_wp2_with fail
            go_meet
            exact Below.refl _ _
          | true =>
            go_wp2_with fail
            refine (pisA sf th base g n c B x y d1 _ HOW.out hxlt hyn (by omega)).mono ?_
            rintro e w4 ⟨q, rfl, hq, hb4⟩
            have HB4 := Lib.hid hb4
            cases q with
            | false =>
              clear hq hb4
              go_wp2_with fail
              go_meet
              exact HB4.out
            | true =>
              have HE := Lib.hid (HR1.out.part hxlt HYD.out hq)
              clear hq hb4
              go_wp2_with fail
              go_end0
              exact ⟨rfl, d1, HOW.out.keep HB4.out, HG0.out.trans (grown_below HG.out HB4.out), HE.out⟩
        case rest =>
        obtain ⟨w4, hw4⟩ : ∃ w4, w4 = wc := ⟨_, rfl⟩
        subst hw4
        have HOW := Lib.hid (HOW.out.keep hcut)
        have HG := Lib.hid (grown_below HG.out hcut)
        have hpn : pv < n := by omega
        clear hcut hh1 hh2 hs hsI
        clear b0 b1 bl
        have hBB := HBB.out.grown HG.out hneg
        have b0 : w4.cell? ⟨w.heap.size, 0, none⟩ = some (.func (.func 26) #[] #[.pointer (some ⟨B, 0, none⟩)]) := by simpa using hBB.cell 0
        have b1 : w4.cell? ⟨w.heap.size, 1, none⟩ = some (.func (.func sf) #[] #[.slice (some ⟨g, 0, none⟩) n c, th]) := by simpa using hBB.cell 1
        have bl := hBB.lt
        clear hBB
        go_upto_region 18 with fail
        go_cut [83] (fun ec wx => ∃ cc : Bool, ec = .bool cc ∧ Below w4.heap.size w4 wx ∧ (cc = true → 0 < x ∧ befC d1[x - 1]! d1[pv]! = false))
        case first =>
          by_cases hx0 : 0 < x
          · obtain ⟨p, hp⟩ : ∃ p, x - 1 = p := ⟨_, rfl⟩
            have hxI : (x : Int) > 0 := by omega
            have hpI : (x : Int) - 1 = (p : Int) := by omega
            have hpw : IntKind.i64.wrap (p : Int) = (p : Int) := Go.IntWalk.i64_in _ (by omega)
            have hppn : p < n := by omega
            have HP := Lib.hid hp
            clear hp
            cases hbf : befC d1[p]! d1[pv]! with
            | true =>
              have HBF := Lib.hid hbf
              clear hbf
              go_wp2_with fail
              refine (lessA HOW.out hppn hpn true HBF.out.symm).mono ?_
              rintro e w1 ⟨rfl, hb1⟩
              go_wp2_with fail
              go_meet
              exact ⟨false, rfl, hb1, fun h => absurd h (by decide)⟩
            | false =>
              have HBF := Lib.hid hbf
              clear hbf
              go_wp2_with fail
              refine (lessA HOW.out hppn hpn false HBF.out.symm).mono ?_
              rintro e w1 ⟨rfl, hb1⟩
              go_wp2_with fail
              go_meet
              exact ⟨true, rfl, hb1, fun _ => ⟨hx0, by rw [HP.out]; exact HBF.out⟩⟩
          · have hxI : ¬ (x : Int) > 0 := by omega
            go_wp2_with fail
            go_meet
            exact ⟨false, rfl, Below.refl _ _, fun h => absurd h (by decide)⟩
        case rest =>
        obtain ⟨c2, rfl, hbc, hcc⟩ := hcut
        have HOW := Lib.hid (HOW.out.keep hbc)
        have HG := Lib.hid (grown_below HG.out hbc)
        have HCC := Lib.hid hcc
        clear hbc hcc
        clear b0 b1 bl
        have hBB := HBB.out.grown HG.out hneg
        have b0 : wc.cell? ⟨w.heap.size, 0, none⟩ = some (.func (.func 26) #[] #[.pointer (some ⟨B, 0, none⟩)]) := by simpa using hBB.cell 0
        have b1 : wc.cell? ⟨w.heap.size, 1, none⟩ = some (.func (.func sf) #[] #[.slice (some ⟨g, 0, none⟩) n c, th]) := by simpa using hBB.cell 1
        have bl := hBB.lt
        clear hBB
        cases c2 with
        | true =>
          go_wp2_with fail
          refine (peqA sf th base g n c B HSW.out x y pv d1 _ HOW.out hxlt hyn hpn hn40).mono ?_
          rintro e w5 ⟨vv, d5, rfl, hS5, hg5, hv, hd5⟩
          obtain ⟨mid, hmid⟩ : ∃ mid, (Sort.partitionEqual befC d1 x y pv).1 = mid := ⟨_, rfl⟩
          rw [hmid] at hv
          subst hv
          have k := HR1.out.equal (HCC.out (by trivial)).1 hpx hpy HYD.out (HCC.out (by trivial)).2 hmid hd5
          have hk1 := k.1
          have hk2 := k.2.1
          have HK := Lib.hid k.2.2
          have HS5 := Lib.hid hS5
          have HG5 := Lib.hid (HG.out.trans hg5)
          clear hmid k hS5 hg5 hd5
          go_wp2_with fail
          exact ⟨⟨mid, y, l2, u, v, d5, by omega, hk2, hyb, hl264, rfl, rfl, rfl, rfl, rfl, HK.out, HS5.out, HG5.out⟩, by simp [intOf]; omega⟩
        | false =>
          go_wp2_with fail
          refine (partA sf th base g n c B HSW.out x y pv d1 _ HOW.out hxlt hyn hpn hn40).mono ?_
          rintro e w5 ⟨vv, d5, rfl, hS5, hg5, hv, hd5⟩
          obtain ⟨mid, hmid⟩ : ∃ mid, (Sort.partition befC d1 x y pv).1 = mid := ⟨_, rfl⟩
          obtain ⟨ap, hap⟩ : ∃ ap, (Sort.partition befC d1 x y pv).2.1 = ap := ⟨_, rfl⟩
          rw [hmid, hap] at hv
          subst hv
          obtain ⟨k1, k2, k3, k4, k5, k6⟩ := HR1.out.split hpx hpy HYD.out hmid hd5
          have K3 := Lib.hid k3
          have K4 := Lib.hid k4
          have K5 := Lib.hid k5
          have K6 := Lib.hid k6
          have HOW := Lib.hid hS5
          have HG := Lib.hid (HG.out.trans hg5)
          clear hmid hap hS5 hg5 hd5 k3 k4 k5 k6
          clear b0 b1 bl
          have hBB := HBB.out.grown HG.out hneg
          have b0 : w5.cell? ⟨w.heap.size, 0, none⟩ = some (.func (.func 26) #[] #[.pointer (some ⟨B, 0, none⟩)]) := by simpa using hBB.cell 0
          have b1 : w5.cell? ⟨w.heap.size, 1, none⟩ = some (.func (.func sf) #[] #[.slice (some ⟨g, 0, none⟩) n c, th]) := by simpa using hBB.cell 1
          have bl := hBB.lt
          clear hBB
          obtain ⟨lf, hlf⟩ : ∃ lf, mid - x = lf := ⟨_, rfl⟩
          have hlfI : (mid : Int) - (x : Int) = (lf : Int) := by omega
          have hlfw : IntKind.i64.wrap (lf : Int) = (lf : Int) := Go.IntWalk.i64_in _ (by omega)
          obtain ⟨rg, hrg⟩ : ∃ rg, y - mid = rg := ⟨_, rfl⟩
          have hrgI : (y : Int) - (mid : Int) = (rg : Int) := by omega
          have hrgw : IntKind.i64.wrap (rg : Int) = (rg : Int) := Go.IntWalk.i64_in _ (by omega)
          obtain ⟨m1, hm1⟩ : ∃ m1, mid + 1 = m1 := ⟨_, rfl⟩
          have hm1I : (mid : Int) + 1 = (m1 : Int) := by omega
          have hm1w : IntKind.i64.wrap (m1 : Int) = (m1 : Int) := Go.IntWalk.i64_in _ (by omega)
          obtain ⟨t8, ht8⟩ : ∃ t8, l / 8 = t8 := ⟨_, rfl⟩
          have ht8I : (l : Int).tdiv 8 = (t8 : Int) := by rw [Int.tdiv_eq_ediv_of_nonneg (by omega)]; omega
          have ht8w : IntKind.i64.wrap (t8 : Int) = (t8 : Int) := Go.IntWalk.i64_in _ (by omega)
          have hmn : mid ≤ n := by omega
          have hm1y : m1 ≤ y := by omega
          have hxm1 : x < m1 := by omega
          have hr1 : mid - x < m := by omega
          have hr2 : y - m1 < m := by omega
          rw [hm1] at K4 K5 K6
          clear hlf hrg hm1 ht8
          by_cases hlr : lf < rg
          · have hlrI : (lf : Int) < (rg : Int) := by omega
            go_wp2_with fail
            refine (HI.out x mid l2 d5 _ HOW.out hr1 k1 hmn hl264 K3.out).mono ?_
            rintro e w6 ⟨rfl, d6, hS6, hg6, hp6, hs6⟩
            have HK := Lib.hid (K5.out d6 hp6 hs6)
            have HS6 := Lib.hid hS6
            have HG6 := Lib.hid (HG.out.trans hg6)
            clear hp6 hs6 hS6 hg6
            go_wp2_with fail
            exact ⟨⟨m1, y, l2, _, _, d6, by omega, hm1y, hyb, hl264, rfl, rfl, rfl, rfl, rfl, HK.out, HS6.out, HG6.out⟩, by simp [intOf]; omega⟩
          · have hlrI : ¬ (lf : Int) < (rg : Int) := by omega
            go_wp2_with fail
            refine (HI.out m1 y l2 d5 _ HOW.out hr2 hm1y hyn hl264 K4.out).mono ?_
            rintro e w6 ⟨rfl, d6, hS6, hg6, hp6, hs6⟩
            have HK := Lib.hid (K6.out d6 hp6 hs6)
            have HS6 := Lib.hid hS6
            have HG6 := Lib.hid (HG.out.trans hg6)
            clear hp6 hs6 hS6 hg6
            go_wp2_with fail
            exact ⟨⟨x, mid, l2, _, _, d6, hax, k1, by omega, hl264, rfl, rfl, rfl, rfl, rfl, HK.out, HS6.out, HG6.out⟩, by simp [intOf]; omega⟩
theorem pdqA (sf : Nat) (th : Value) (base g n c B : Nat) (hsw : Swaps sf th base g n c) (hn : n ≤ 21) : ∀ (m a b lim : Nat) (d0 : Array C) (w : World), SA w base g n c B d0 → b - a < m → a ≤ b → b ≤ n → lim ≤ 64 → Sort.Below befC a b d0 → Calls Try.prog 31 #[.agg #[.func (.func 26) #[] #[.pointer (some ⟨B, 0, none⟩)], .func (.func sf) #[] #[.slice (some ⟨g, 0, none⟩) n c, th]], .int .i64 (a : Int), .int .i64 (b : Int), .int .i64 (lim : Int)] w (AP w base g n c B fun d' => Sort.PermIn a b d0 d' ∧ Sort.SortedIn befC a b d') := by
  intro m
  induction m with
  | zero => intro a b lim d0 w h hm; omega
  | succ m ih => intro a b lim d0 w h hm hab hb hl hbe; exact pdqA_step sf th base g n c B hsw m hn ih a b lim d0 w h (by omega) hab hb hl hbe
end Go.Proofs.Ytegnedpikpfjfaa

/- Cells put in order by the library: sort.Slice up to 21 cells. -/
namespace Go.Proofs.Ytegnedpikpfjfaa
open Go.RowKit Go.Shelf
set_option linter.unusedVariables false
attribute [local go_sem ↓] Go.wp_at_zero Go.wp_at_succ

theorem extract_all (d : Array C) {n : Nat} (h : d.size = n) : (d.extract 0 n).toList = d.toList := by
  subst h
  simp
/-- What the sort has done, read on lists. -/
theorem sorted_list {n : Nat} {d0 d' : Array C} (h0 : d0.size = n) (hp : Sort.PermIn 0 n d0 d') (hs : Sort.SortedIn befC 0 n d') :
    d'.toList.length = n ∧ (∀ x, x ∈ d'.toList ↔ x ∈ d0.toList) ∧ d'.toList.Pairwise (fun a b => befC b a = false) := by
  have hn : d'.size = n := hp.1.trans h0
  have hq := hp.2.2
  rw [extract_all d' hn, extract_all d0 h0] at hq
  refine ⟨by rw [Array.length_toList]; exact hn, fun x => hq.mem_iff, ?_⟩
  rw [List.pairwise_iff_getElem]
  intro i j hi hj hij
  rw [Array.length_toList] at hi hj
  have h := hs i j (Nat.zero_le _) hij (by omega)
  rw [getElem!_pos d' j hj, getElem!_pos d' i hi] at h
  simpa using h
theorem SA.of_list {w : World} {base g n c B : Nat} {l : List C} (ho : w.ownsRow base 29 2 (.slice (some ⟨g, 0, none⟩) n c) n (vC l)) (hB : w.cell? ⟨B, 0, none⟩ = some (.slice (some ⟨g, 0, none⟩) n c)) (hBg : B ≠ g) : SA w base g n c B l.toArray := ⟨by simpa using ho, hB, hBg⟩
theorem bitLen_few : ∀ n : Fin 22, Lib.bitLen n.val ≤ 64 := by decide +kernel
theorem sort21 (sf : Nat) (th : Value) (base g n c B : Nat) (hsw : Swaps sf th base g n c) (hn : n ≤ 21) (l0 : List C) (w : World) (ho : w.ownsRow base 29 2 (.slice (some ⟨g, 0, none⟩) n c) n (vC l0)) (hB : w.cell? ⟨B, 0, none⟩ = some (.slice (some ⟨g, 0, none⟩) n c)) (hBg : B ≠ g) :
    Calls Try.prog 31 #[.agg #[.func (.func 26) #[] #[.pointer (some ⟨B, 0, none⟩)], .func (.func sf) #[] #[.slice (some ⟨g, 0, none⟩) n c, th]], .int .i64 0, .int .i64 (n : Int), .int .i64 (Lib.bitLen n : Nat)] w (SrtP w base g n c l0) := by
  have hA := SA.of_list ho hB hBg
  have h := pdqA sf th base g n c B hsw hn (n + 1) 0 n (Lib.bitLen n) l0.toArray w hA (by omega) (Nat.zero_le _) (Nat.le_refl _) (bitLen_few ⟨n, by omega⟩) (.inl rfl)
  refine Calls.mono h ?_
  rintro e w' ⟨rfl, d', hS, hg, hp, hs⟩
  obtain ⟨h1, h2, h3⟩ := sorted_list hA.size hp hs
  exact ⟨rfl, d'.toList, h1, fun x => by rw [h2], h3, hS.own, hg⟩
set_option maxRecDepth 100000 in
/-- The library's sort of a slice of two to 21 cells, with the program's test. -/
theorem sortCellsK (Bs base g n c : Nat) (l0 : List C) (w : World) (ho : w.ownsRow base 29 2 (.slice (some ⟨g, 0, none⟩) n c) n (vC l0)) (hB : w.cell? ⟨Bs, 0, none⟩ = some (.slice (some ⟨g, 0, none⟩) n c)) (hBg : Bs ≠ g) (hn : 1 ≤ n) (hn21 : n ≤ 21) :
    Calls Try.prog 25 #[.iface 22 (.slice (some ⟨g, 0, none⟩) n c), .func (.func 26) #[] #[.pointer (some ⟨Bs, 0, none⟩)]] w (SrtP w base g n c l0) := by
  by_cases hn2 : 2 ≤ n
  · have hagg : ∀ w, (isAgg 29).run Try.prog w = .ok true w := fun _ => by kernel_rfl
    have fin : ∀ (W : World), W = sliceWorld Try.prog Try.laysGg6_ren 22 (some ⟨g, 0, none⟩) n c w → W.ownsRow base 29 2 (.slice (some ⟨g, 0, none⟩) n c) n (vC l0) ∧ W.cell? ⟨Bs, 0, none⟩ = some (.slice (some ⟨g, 0, none⟩) n c) ∧
        ∀ w', W.grownBy w' (some g) → w.grownBy w' (some g) := by
      intro W hW
      subst hW
      unfold sliceWorld
      exact ⟨(ho.alloc _).alloc _, keep_alloc (keep_alloc hB), fun w' h => grown_alloc1 (grown_alloc1 h)⟩
    obtain ⟨h1, h2, h3⟩ := fin _ rfl
    have hpost : ∀ e w', SrtP (sliceWorld Try.prog Try.laysGg6_ren 22 (some ⟨g, 0, none⟩) n c w) base g n c l0 e w' → e = .returned (.tuple #[]) ∧ (∃ l', l'.length = n ∧ (∀ x, x ∈ l' ↔ x ∈ l0) ∧ l'.Pairwise (fun a b => befC b a = false) ∧ w'.ownsRow base 29 2 (.slice (some ⟨g, 0, none⟩) n c) n (vC l') ∧ w.grownBy w' (some g)) :=
      fun e w' ⟨he, l', a1, a2, a3, a4, a5⟩ => ⟨he, l', a1, a2, a3, a4, h3 _ a5⟩
    refine (Any.sort_Slice_of_pdq Try.laysGg6 22 29 tiS tiC (by kernel_rfl) (by kernel_rfl) (by kernel_rfl) (by kernel_rfl) 25 (fun _ => by kernel_rfl) (some ⟨g, 0, none⟩) n c (by omega) 40 (by rw [swapK2 n hn2]; kernel_rfl) (.func 26) #[] #[.pointer (some ⟨Bs, 0, none⟩)] w
      (fun w' => ∃ l', l'.length = n ∧ (∀ x, x ∈ l' ↔ x ∈ l0) ∧ l'.Pairwise (fun a b => befC b a = false) ∧ w'.ownsRow base 29 2 (.slice (some ⟨g, 0, none⟩) n c) n (vC l') ∧ w.grownBy w' (some g)) ?_).mono (fun e w' h => ⟨h.1, h.2⟩)
    have hbd : sliceBound Try.prog 29 tiC 25 (some ⟨g, 0, none⟩) n c = #[.slice (some ⟨g, 0, none⟩) n c, typeHandle Try.prog 29] := by
      unfold sliceBound
      rw [swapK2 n hn2]
      rfl
    rw [hbd]
    have hx : ∀ args W, (callFunc 40 args).run Try.prog W = ((Extern.ReflectliteSwapper.swap false args).run Try.prog W).andThen fun v w' => .ok (.value v) w' := fun args W => run_callFunc_extern Try.func40 (by kernel_rfl) (by kernel_rfl) (by kernel_rfl) (e := Extern.ReflectliteSwapper.swap false) (by kernel_rfl) args W
    exact (sort21 _ _ base g n c Bs (fun w l i j a b c => swapCells _ false hx hagg base g n _ l i j w a b c) hn21 l0 _ h1 h2 hBg).mono hpost
  · exact sortCells Bs base g n c l0 w ho hB hBg hn (by omega)
end Go.Proofs.Ytegnedpikpfjfaa

/- Cells put in order, each once: the program, at one to 21 cells. -/
namespace Go.Proofs.Ytegnedpikpfjfaa
open Go.RowKit
set_option linter.unusedVariables false
attribute [local go_sem ↓] Go.wp_at_zero Go.wp_at_succ

set_option maxRecDepth 100000 in
set_option maxHeartbeats 3200000 in
theorem SortCells_k (A : Option Addr) (n c : Nat) (xs : List C) (w : World) (hr : Rd w A (vC xs)) (hl : xs.length = n) (hn : 1 ≤ n) (hn12 : n ≤ 21) :
    Calls Try.prog 20 #[.slice A n c] w (RetS w 29 2 (vC (sortC xs))) := by
  have HL := Lib.hid hl
  have HR := Lib.hid hr
  clear hl hr
  go_enter Try.func20, Try.ntmps20
  go_wp2_with (at_builtin; go_must (refine app_C _ rfl _ _ rfl w.heap.size none 0 0 [] rfl (own_nil _ _ _ _) _ _ _ xs rfl HR.out HL.out (by omega) (by omega) ?_); intro D c2 w1 ho1 hg1 hat1; simp only [Nat.zero_add, List.nil_append] at ho1; obtain ⟨g, hD, hbg, hgl⟩ := own_at ho1 (by omega); subst hD; have HO1 := Lib.hid ho1; have HB1 := Lib.hid (bel_app (Below.refl w.heap.size w) hg1 (fun g h => by cases h)); have HBX := Lib.hid (Blk.new w1 22 #[.slice (some ⟨g, 0, none⟩) n c2]); clear ho1 hg1 hat1)
  have hwl := HB1.out.size
  refine (sortCellsK w1.heap.size w.heap.size g n c2 xs _ (HO1.out.alloc _) (HBX.out.cell 0) (by omega) hn hn12).mono ?_
  rintro e w2 ⟨rfl, l, hll, hlm, hlp, ho2, hg2⟩
  have hb2 : Below w.heap.size w w2 := bel_app (A := some ⟨g, 0, none⟩) (bel_alloc HB1.out _) hg2 (fun k e => by simp only [ob, Option.map_some, Option.some.injEq] at e; omega)
  have HV : Hid (dedG l n = sortC xs) := by have := ded_fin hlp hlm; rwa [hll] at this
  have hBX := HBX.out.grown hg2 (fun e => by injection e with e; omega)
  have b0 : w2.cell? ⟨w1.heap.size, 0, none⟩ = some (.slice (some ⟨g, 0, none⟩) n c2) := by simpa using hBX.cell 0
  have bl := hBX.lt
  have HBY := Lib.hid hBX
  have HLL := Lib.hid hll
  have HRL := Lib.hid (Rd.of_own ho2)
  have hg3 := (own_lt ho2 g rfl).2
  have hsz2 := hb2.size
  clear hll hlm hlp ho2 hg2 hBX
  go_wp2_with fail
  go_loopw [15, 4] (fun e15 e4 wr => ∃ (k q cq : Nat) (D : Option Addr), k ≤ n ∧ q ≤ k ∧ e15 = .int .i64 k ∧ e4 = .slice D q cq ∧ wr.ownsRow w2.heap.size 29 2 (.slice D q cq) q (vC (dedG l k)) ∧ Below w2.heap.size w2 wr) (fun e15 _ _ => n - (intOf e15).toNat)
  case atStart => exact ⟨0, 0, 0, none, by omega, by omega, rfl, rfl, own_nil _ _ _ _, Below.refl _ _⟩
  case round =>
    obtain ⟨k, q, cq, D, hk, hq, rfl, rfl, hown, hb⟩ := hrel
    by_cases hlt : k < n
    · have hkl : k < l.length := by rw [HLL.out]; exact hlt
      have hrw := HRL.out.below hb
      obtain ⟨g', off, he, _, a1, a2⟩ := RdC.at_ hrw hkl
      simp only [Option.some.injEq, Addr.mk.injEq, and_true] at he
      obtain ⟨rfl, rfl⟩ := he
      rw [Nat.zero_add] at a1 a2
      have hgd : l.getD k default = l[k] := getD_in l hkl
      have hst : dedG l (k + 1) = dedG l k ++ (if keepG l k then [l.getD k default] else []) := rfl
      obtain ⟨x, hx⟩ : ∃ x, l[k].1 = x := ⟨_, rfl⟩
      obtain ⟨y, hy⟩ : ∃ y, l[k].2 = y := ⟨_, rfl⟩
      have hxy : l[k] = (x, y) := Prod.ext hx hy
      rw [hx] at a1
      rw [hy] at a2
      rw [hxy] at hgd
      rw [hgd] at hst
      have HO := Lib.hid hown
      have hbs := hb.size
      have KEEP : Hid (keepG l k = true → dedG l (k + 1) = dedG l k ++ [(x, y)]) := fun h => by rw [hst, h]; rfl
      have SKIP : Hid (keepG l k = false → dedG l (k + 1) = dedG l k) := fun h => by rw [hst, h]; simp
      have hka : keepG l k = (k == 0 || !decide (l.getD (k - 1) default = (x, y))) := by rw [keepG_C, hgd]
      have HKA := Lib.hid hka
      have hglw : g < wr.heap.size := Nat.lt_of_lt_of_le hg3 hb.size
      have hB := HBY.out.below hb
      have d0 : wr.cell? ⟨w1.heap.size, 0, none⟩ = some (.slice (some ⟨g, 0, none⟩) n c2) := by simpa using hB.cell 0
      have dl := hB.lt
      have hk1 : (0 : Int) ≤ (k : Int) := by omega
      have hk2 : (k : Int) < (n : Int) := by omega
      clear hx hy hxy hst hgd hka hown hB b0 bl
      by_cases hk0 : k = 0
      · have e0 : ((k : Int) == 0) = true := by simp [hk0]
        have HN := Lib.hid (KEEP.out (by rw [HKA.out, hk0]; rfl))
        clear KEEP SKIP HKA hk0
        go_wp2_with fail
        (refine wp_region_below (by kernel_rfl) (by kernel_rfl) ?_; (repeat (first | go_big_quiet_skip | (refine quietV (v := ?_) (by rfl) rfl (fun w' hbw => ?_) ?_; rotate_left; ((try dsimp only at hbw); have hbc := (bcell hbw).1; have hbf := (bcell hbw).2; go_simp; first | done | with_reducible rfl | fail); simp only [List.setIfInBounds_toArray, List.set_cons_zero, List.set_cons_succ]))); refine wpQuiet_nil ?_; intro wq hbq)
        have hbz := hbq.size
        simp only [World.size_alloc] at hbz
        have hCB := (Blk.new wr 29 #[.int .i64 x, .int .i64 y]).below hbq
        have z0 : wq.cell? ⟨wr.heap.size, 0, none⟩ = some (.int .i64 x) := by simpa using hCB.cell 0
        have z1 : wq.cell? ⟨wr.heap.size, 1, none⟩ = some (.int .i64 y) := by simpa using hCB.cell 1
        have zl := hCB.lt
        clear hCB
        go_wp2_with (at_builtin; go_must (refine app_C _ rfl _ _ rfl w2.heap.size _ _ _ _ rfl (own_keep (own_keep (HO.out.alloc _) hbq) (bel_alloc (Below.refl _ _) _)) _ _ _ [(x, y)] rfl (rd_newC _ _ _ _) rfl (by omega) (by simp; omega) ?_); intro D2 cp2 w8 ho8 hg8 hat8; have HO8 := Lib.hid ho8; have HG8 := Lib.hid hg8; clear ho8 hg8 hat8)
        exact ⟨⟨k + 1, q + 1, cp2, D2, by omega, by omega, by go_num, rfl, by rw [HN.out]; exact HO8.out, bel_app (bel_alloc (bel_trans (bel_alloc hb _) hbq) _) HG8.out (fun g' hg1 => ((own_lt HO.out) g' hg1).1)⟩, by simp [intOf]; omega⟩
      · obtain ⟨j, hjk⟩ : ∃ j, k = j + 1 := ⟨k - 1, by omega⟩
        have hjl : j < l.length := by omega
        obtain ⟨g', off', he, _, c1, c3⟩ := RdC.at_ hrw hjl
        simp only [Option.some.injEq, Addr.mk.injEq, and_true] at he
        obtain ⟨rfl, rfl⟩ := he
        rw [Nat.zero_add] at c1 c3
        obtain ⟨p, hp⟩ : ∃ p, l[j].1 = p := ⟨_, rfl⟩
        obtain ⟨r, hr⟩ : ∃ r, l[j].2 = r := ⟨_, rfl⟩
        have hgj : l.getD (k - 1) default = (p, r) := by rw [hjk, Nat.add_sub_cancel, getD_in l hjl]; exact Prod.ext hp hr
        rw [hp] at c1
        rw [hr] at c3
        have e0 : ((k : Int) == 0) = false := by simp; omega
        have hj1 : (k : Int) - 1 = (j : Int) := by omega
        have hj0 : (0 : Int) ≤ (j : Int) := by omega
        have hjw : IntKind.i64.wrap (j : Int) = (j : Int) := Go.IntWalk.i64_in _ (by omega)
        have hjm : (j : Int) < (n : Int) := by omega
        have hkk : (k == 0) = false := by simpa using hk0
        have hkz : ¬ k = 0 := hk0
        have HKK := Lib.hid hkk
        have HGJ := Lib.hid hgj
        clear hp hr hgj hjk hkk hk0
        by_cases hsame : p = x ∧ r = y
        · obtain ⟨rfl, rfl⟩ := hsame
          have HN := Lib.hid (SKIP.out (by rw [HKA.out, HKK.out, HGJ.out]; simp))
          have hne : (p == p && r == r) = true := by simp
          clear KEEP SKIP HKA
          go_wp2_with fail
          (refine wp_region_below (by kernel_rfl) (by kernel_rfl) ?_; (repeat (first | go_big_quiet_skip | (refine quietV (v := ?_) (by rfl) rfl (fun w' hbw => ?_) ?_; rotate_left; ((try dsimp only at hbw); have hbc := (bcell hbw).1; have hbf := (bcell hbw).2; go_simp; first | done | with_reducible rfl | fail); simp only [List.setIfInBounds_toArray, List.set_cons_zero, List.set_cons_succ]))); refine wpQuiet_nil ?_; intro wq hbq)
          go_wp2_with fail
          exact ⟨⟨k + 1, q, cq, D, by omega, by omega, by go_num, rfl, by rw [HN.out]; exact own_keep (HO.out.alloc _) hbq, bel_trans (bel_alloc hb _) hbq⟩, by simp [intOf]; omega⟩
        · have hne : (p == x && r == y) = false := by
            rw [Bool.and_eq_false_iff, beq_eq_false_iff_ne, beq_eq_false_iff_ne]
            by_cases h1 : p = x
            · exact .inr fun h2 => hsame ⟨h1, h2⟩
            · exact .inl h1
          have HN := Lib.hid (KEEP.out (by
            rw [HKA.out, HKK.out, HGJ.out, Bool.false_or, decide_eq_false (fun e => hsame (by injection e with e1 e2; exact ⟨e1, e2⟩))]
            rfl))
          clear KEEP SKIP HKA hsame
          go_wp2_with fail
          (refine wp_region_below (by kernel_rfl) (by kernel_rfl) ?_; (repeat (first | go_big_quiet_skip | (refine quietV (v := ?_) (by rfl) rfl (fun w' hbw => ?_) ?_; rotate_left; ((try dsimp only at hbw); have hbc := (bcell hbw).1; have hbf := (bcell hbw).2; go_simp; first | done | with_reducible rfl | fail); simp only [List.setIfInBounds_toArray, List.set_cons_zero, List.set_cons_succ]))); refine wpQuiet_nil ?_; intro wq hbq)
          have hbz := hbq.size
          simp only [World.size_alloc] at hbz
          have hCB := (Blk.new wr 29 #[.int .i64 x, .int .i64 y]).below hbq
          have z0 : wq.cell? ⟨wr.heap.size, 0, none⟩ = some (.int .i64 x) := by simpa using hCB.cell 0
          have z1 : wq.cell? ⟨wr.heap.size, 1, none⟩ = some (.int .i64 y) := by simpa using hCB.cell 1
          have zl := hCB.lt
          clear hCB
          go_wp2_with (at_builtin; go_must (refine app_C _ rfl _ _ rfl w2.heap.size _ _ _ _ rfl (own_keep (own_keep (HO.out.alloc _) hbq) (bel_alloc (Below.refl _ _) _)) _ _ _ [(x, y)] rfl (rd_newC _ _ _ _) rfl (by omega) (by simp; omega) ?_); intro D2 cp2 w8 ho8 hg8 hat8; have HO8 := Lib.hid ho8; have HG8 := Lib.hid hg8; clear ho8 hg8 hat8)
          exact ⟨⟨k + 1, q + 1, cp2, D2, by omega, by omega, by go_num, rfl, by rw [HN.out]; exact HO8.out, bel_app (bel_alloc (bel_trans (bel_alloc hb _) hbq) _) HG8.out (fun g' hg1 => ((own_lt HO.out) g' hg1).1)⟩, by simp [intOf]; omega⟩
    · obtain rfl : k = n := by omega
      rw [HV.out] at hown
      have HO := Lib.hid (own_base hown hsz2)
      have hk1 : ¬ (k : Int) < (k : Int) := by omega
      clear hown
      go_wp2
      go_ret
      exact ⟨_, _, _, rfl, HO.out, bel_trans hb2 hb⟩
end Go.Proofs.Ytegnedpikpfjfaa
