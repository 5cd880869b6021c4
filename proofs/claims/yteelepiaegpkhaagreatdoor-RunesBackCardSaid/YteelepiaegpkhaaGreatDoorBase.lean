/-
  THE PROGRAM's SMALL FACTS: what '==' and '!=' give at a Range; the zero values of the types that are appended.
-/
import Derived.Test.YteelepiaegpkhaaGreatDoorProg
import Derived.Test.YteelepiaegpkhaaGreatDoorApp
import Derived.Test.YteelepiaegpkhaaGreatDoorPlain
import Derived.WalkKit
import Derived.WalkSpells
import Derived.WalkLawsBesides
import Derived.Outline
import Derived.BigQuiet
import Derived.Deep.QuietTactic
import Derived.Laws.StructEq
import Derived.Deep.DeepFit
namespace Go.Proofs.YteelepiaegpkhaaGreatDoor
open Go.RowKit

theorem guardR (op : BinOp) (x y : Operand) (xs ys : Array Value) (w : World) : (eqGuard op 33 x y (.agg xs) (.agg ys)).run Tryz.prog w = .ok () w :=
  run_eqGuard_agg w op _ x y xs ys (by kernel_rfl)
theorem infoR : (Tryz.prog.info? 33).map (fun i => (i.zero, i.size, i.bytes)) = some (some (.agg #[.int .i32 0, .int .i32 0]), 2, 8) := by kernel_rfl
theorem infoInt : (Tryz.prog.info? 3).map (fun i => (i.zero, i.size, i.bytes)) = some (some (.int .i64 0), 1, 8) := by kernel_rfl
theorem encR_ok (l : List (Int × Int)) : ∀ y ∈ l.map encR, y.length = 2 ∧ ∀ u ∈ y, u.oneCell' = true := by
  intro y hy; obtain ⟨r, _, rfl⟩ := List.mem_map.1 hy
  exact ⟨rfl, by simp [encR, Value.oneCell']⟩
/-- Are two ranges the same? (Behind a name: the walk must not take it apart.) -/
def eqRB (a b c d : Int) : Bool := decide ((a, b) = (c, d))
theorem eqRB_true {a b c d : Int} (h : (a, b) = (c, d)) : eqRB a b c d = true := decide_eq_true h
theorem eqRB_false {a b c d : Int} (h : ¬ (a, b) = (c, d)) : eqRB a b c d = false := decide_eq_false h
theorem eqlR (a b c d : Int) (w : World) : (binOp .eql 33 (.agg #[.int .i32 a, .int .i32 b]) (.agg #[.int .i32 c, .int .i32 d])).run Tryz.prog w = .ok (.bool (eqRB a b c d)) w := by
  have hS : Tryz.prog.underlying 33 = some (.struct (Tryz.prog.fieldsOf 33)) := by kernel_rfl
  have hp : Tryz.prog.stoodInHeld 33 = false := by kernel_rfl
  have u3 := Tryz.underlying21
  have a3 := Tryz.isAgg21
  have z3 := Tryz.sizeOf21
  rw [run_eql_struct, show (10000 : Nat) = 9999 + 1 from rfl, run_equalIn_agg w 9999 _ _ _ hS hp]
  simp only [Program.fieldsOf, Tryz.underlying33]
  go_simp
  by_cases h1 : a = c <;> by_cases h2 : b = d <;> simp [eqRB, h1, h2]
theorem neqR (a b c d : Int) (w : World) : (binOp .neq 33 (.agg #[.int .i32 a, .int .i32 b]) (.agg #[.int .i32 c, .int .i32 d])).run Tryz.prog w = .ok (.bool (!eqRB a b c d)) w := by
  have h := eqlR a b c d w
  rw [run_eql_struct] at h
  rw [run_neq_struct]
  cases hq : (Op.equalIn 10000 33 (.agg #[.int .i32 a, .int .i32 b]) (.agg #[.int .i32 c, .int .i32 d])).run Tryz.prog w with
  | ok b' w' => rw [hq] at h; simp at h; simp [h]
  | _ => rw [hq] at h; simp at h

/-- A string's byte at an index that is a sum. -/
theorem index_at (s : ByteArray) (i : Int) (p : Nat) (hi : i = p) (hp : p < s.size) (W : World) : (Instr.index 9 (.string s) (.int .i64 i)).run Tryz.prog W = .ok (.int .u8 ((s[p]'hp).toNat : Int)) W := by
  subst hi
  rw [run_index_string _ _ _ _ _ Tryz.underlying9]
  simp [hp]
/- Contracts of callees that leave the world as it was, inside a region that draws its order. -/
theorem quiet_add_left {P : Program} {f : FuncId} {args : Array Value} {w : World} {a n : Nat} {v : Value}
    (h : Calls P f args (w.drewN (a + n)) fun e w' => e = .returned v ∧ w.drewN (a + n) = w') :
    Calls P f args (w.drewN (a + n)) fun e w'' => e = .returned v ∧ ∃ m, w'' = w.drewN (a + m) :=
  h.mono fun _ _ ⟨he, hm⟩ => ⟨he, n, hm.symm⟩
theorem quiet_left {P : Program} {f : FuncId} {args : Array Value} {w : World} {n : Nat} {v : Value}
    (h : Calls P f args (w.drewN n) fun e w' => e = .returned v ∧ w.drewN n = w') : Calls P f args (w.drewN n) fun e w'' => e = .returned v ∧ ∃ m, w'' = w.drewN m :=
  h.mono fun _ _ ⟨he, hm⟩ => ⟨he, n, hm.symm⟩
end Go.Proofs.YteelepiaegpkhaaGreatDoor
