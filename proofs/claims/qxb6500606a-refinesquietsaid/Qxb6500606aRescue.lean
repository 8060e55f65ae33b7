/-
  rescue: the boundary's one deferred call.
-/
import Derived.Test.Qxb6500606aBare
namespace Go.Proofs.Qxb6500606a
open Go.ChangeShapes Go.WideShapes Go.ChangeAt Go.RowKit Go.Shelf
set_option linter.unusedVariables false

theorem err15 (v : Value) (W : World) : (Instr.typeAssert (.iface 15 v) 20 126 true).run Try.prog W = .ok (.tuple #[.iface 15 v, .bool true]) W := run_typeAssert_hasB Try.underlying126 (by kernel_rfl) _ _ W
theorem err10 (v : Value) (W : World) : (Instr.typeAssert (.iface 10 v) 20 126 true).run Try.prog W = .ok (.tuple #[.iface 10 v, .bool true]) W := run_typeAssert_hasB Try.underlying126 (by kernel_rfl) _ _ W
theorem own22 (n : Int) (W : World) : (Instr.typeAssert (.iface 25 (.int .i64 n)) 20 25 true).run Try.prog W = .ok (.tuple #[.int .i64 n, .bool true]) W := by kernel_rfl
theorem own15 (v : Value) (W : World) : (Instr.typeAssert (.iface 15 v) 20 25 true).run Try.prog W = .ok (.tuple #[.int .i64 0, .bool false]) W := by kernel_rfl
theorem own10 (v : Value) (W : World) : (Instr.typeAssert (.iface 10 v) 20 25 true).run Try.prog W = .ok (.tuple #[.int .i64 0, .bool false]) W := by kernel_rfl

section
variable {w : World} {s E : Nat} {it : Value} {b : Bool} {z : Int}
theorem rescue_quiet (hh : w.heap[s]? = some (.cells #[it, .bool b] 46)) (keep : Value) (pe : Value) :
    CallsD Try.prog 80 #[.pointer (some ⟨s, 0, none⟩), keep, pe] .returning w fun e u' w' => e = .returned (.tuple #[]) ∧ u' = .returning ∧ w' = w.setCell ⟨s, 1, none⟩ (.bool false) := by
  have c1 : w.cell? ⟨s, 1, none⟩ = some (.bool b) := by simp [World.cell?, hh]
  have z1 : w.frozen? ⟨s, 1, none⟩ = false := frozen_of_row w s 1 _ _ hh
  clear hh
  refine callsD_of_wpS Try.func80 rfl fun c₀ cs hu => ?_
  simp only [Try.ntmps80, List.size_toArray, List.length_cons, List.length_nil, Nat.reduceAdd, Nat.reduceSub, Array.replicate_succ, Array.replicate_zero, List.push_toArray, List.append_toArray, List.nil_append, List.cons_append]
  apply wpS_seq
  refine wpS_of_wp ?_
  go_wp2
  apply wpS_seq
  apply wpS_region
  generalize hK : (Exit.thenS _ _) = K
  simp only [wpOpsS, List.size_toArray, List.length_cons, List.length_nil, Nat.reduceAdd, List.range_succ, List.range_zero, List.nil_append, List.cons_append]
  simp [go_sem, recoverD, hu, Region.wanted]
  rw [← hK]
  refine wpS_of_wp ?_
  go_wp2
  refine ⟨rfl, .returning, ?_, _, results_none rfl _ _ _, rfl, rfl, rfl⟩
  cases c₀
  simp_all
theorem rescue_threw {v : Value} {er : Int} (hh : w.heap[s]? = some (.cells #[it, .bool b] 46)) (hE : w.heap[E]? = some (.cells #[.int .i64 z] 25)) (hv : Threw v er) (a : Option Addr) (n cap : Nat) :
    CallsD Try.prog 80 #[.pointer (some ⟨s, 0, none⟩), .slice a n cap, .pointer (some ⟨E, 0, none⟩)] (.panicking (thrown v)) w fun e u' w' => e = .returned (.tuple #[]) ∧ u' = .panicking [{ v := v, recovered := true }] ∧ w' = ((w.setCell ⟨s, 1, none⟩ (.bool false)).setCell ⟨s, 0, none⟩ (.slice a n cap)).setCell ⟨E, 0, none⟩ (.int .i64 er) := by
  have c1 : w.cell? ⟨s, 1, none⟩ = some (.bool b) := by simp [World.cell?, hh]
  have z1 : w.frozen? ⟨s, 1, none⟩ = false := frozen_of_row w s 1 _ _ hh
  have c0 : w.cell? ⟨s, 0, none⟩ = some it := by simp [World.cell?, hh]
  have z0 : w.frozen? ⟨s, 0, none⟩ = false := frozen_of_row w s 0 _ _ hh
  have cE : w.cell? ⟨E, 0, none⟩ = some (.int .i64 z) := by simp [World.cell?, hE]
  have zE : w.frozen? ⟨E, 0, none⟩ = false := frozen_of_row w E 0 _ _ hE
  have hne : E ≠ s := by rintro rfl; rw [hh] at hE; simp at hE
  clear hh hE
  refine callsD_of_wpS Try.func80 rfl fun c₀ cs hu => ?_
  simp only [Try.ntmps80, List.size_toArray, List.length_cons, List.length_nil, Nat.reduceAdd, Nat.reduceSub, Array.replicate_succ, Array.replicate_zero, List.push_toArray, List.append_toArray, List.nil_append, List.cons_append]
  apply wpS_seq
  refine wpS_of_wp ?_
  go_wp2
  apply wpS_seq
  apply wpS_region
  generalize hK : (Exit.thenS _ _) = K
  simp only [wpOpsS, List.size_toArray, List.length_cons, List.length_nil, Nat.reduceAdd, List.range_succ, List.range_zero, List.nil_append, List.cons_append]
  simp [go_sem, recoverD, hu, Region.wanted, thrown]
  rw [← hK]
  refine wpS_of_wp ?_
  rcases hv with rfl | ⟨rfl, y, rfl⟩ | ⟨rfl, y, rfl⟩
  · have ho := own22 er
    go_wp2
    refine ⟨rfl, _, rfl, _, results_none rfl _ _ _, rfl, rfl, rfl⟩
  · have ho := own15 y
    have ho2 := err15 y
    go_wp2
    refine ⟨rfl, _, rfl, _, results_none rfl _ _ _, rfl, rfl, rfl⟩
  · have ho := own10 y
    have ho2 := err10 y
    go_wp2
    refine ⟨rfl, _, rfl, _, results_none rfl _ _ _, rfl, rfl, rfl⟩
end
end Go.Proofs.Qxb6500606a
