/- The deferred function of Scan, and tokens: what a call does. -/
import Derived.Test.YtigppjgmfonodaaLexJ
import Derived.RecoverIn
import Derived.RangeFuncNested
namespace Go.Proofs.Ytigppjgmfonodaa
open Go.RowKit

attribute [local go_sem] Oper.semAt_some

theorem tokens_any (s : ByteArray) (w : World) :
    Calls Try.prog 36 #[.string s] w fun e w' => e = .returned (.func (.func 53) #[] #[.pointer (some ⟨w.heap.size, 0, none⟩)]) ∧ w.alloc (.cells #[.string s] 9) = w' := by
  have hmf : ∀ (fn : Fn) (first cap : Array Value) (w : World), (Instr.makeFunc fn first cap).run Try.prog w = .ok (.func fn first cap) w := fun _ _ _ _ => rfl
  go_enter Try.func36, Try.ntmps36
  go_wp2
  go_ret
  exact ⟨rfl, rfl⟩

set_option maxRecDepth 100000 in
theorem scan1_idle (n : Nat) (p0 p1 p2 : Addr) (w : World) :
    CallsDIn Fence.wide n Try.prog 35 #[.pointer (some p0), .pointer (some p1), .pointer (some p2)] .returning w fun e u' w' => e = .returned (.tuple #[]) ∧ u' = .returning ∧ Below w.heap.size w w' := by
  have hta : ∀ w, (Instr.typeAssert .nilIface 20 64 true).run Try.prog w = .ok (.tuple #[.agg #[.int .i64 0], .bool false]) w := fun _ => by kernel_rfl
  refine callsDIn_of_wpSIn Try.func35 rfl trivial fun c₀ cs hu => ?_
  simp only [Try.ntmps35, List.size_toArray, List.length_cons, List.length_nil, Nat.reduceAdd, Nat.reduceSub, Array.replicate_succ, Array.replicate_zero, List.push_toArray, List.append_toArray, List.nil_append, List.cons_append]
  apply wpSIn_seq
  apply wpSIn_region
  simp [wpOpsSIn, go_sem, recoverD, hu, hta, Exit.thenS]
  refine wpSIn_of_wpIn rfl (wpIn_wide.2 ?_)
  go_wp2
  cases c₀
  simp_all [bodyPostS, results, Try.results35]
  exact (Below.refl _ _).alloc (Nat.le_refl _) _

set_option maxRecDepth 100000 in
set_option maxHeartbeats 1000000 in
theorem scan1_bad (n b0 : Nat) (k : Int) (older : List PanicEntry) (w : World) (v0 v1 v2 : Value) (hc0 : w.cell? ⟨b0, 0, none⟩ = some v0) (hc1 : w.cell? ⟨b0 + 1, 0, none⟩ = some v1) (hc2 : w.cell? ⟨b0 + 2, 0, none⟩ = some v2)
    (hz0 : w.frozen? ⟨b0, 0, none⟩ = false) (hz1 : w.frozen? ⟨b0 + 1, 0, none⟩ = false) (hz2 : w.frozen? ⟨b0 + 2, 0, none⟩ = false) (hlt : b0 + 2 < w.heap.size) :
    CallsDIn Fence.wide n Try.prog 35 #[.pointer (some ⟨b0, 0, none⟩), .pointer (some ⟨b0 + 1, 0, none⟩), .pointer (some ⟨b0 + 2, 0, none⟩)] (.panicking ({ v := .iface 64 (.agg #[.int .i64 k]), recovered := false } :: older)) w fun e u' w' =>
      e = .returned (.tuple #[]) ∧ u' = .panicking ({ v := .iface 64 (.agg #[.int .i64 k]), recovered := true } :: older) ∧
      ∃ w2, Below w.heap.size w w2 ∧ (((w2.setCell ⟨b0, 0, none⟩ (.slice none 0 0)).setCell ⟨b0 + 1, 0, none⟩ (.int .i64 k)).setCell ⟨b0 + 2, 0, none⟩ (.int .i64 340)).drew = w' := by
  have hta : ∀ w, (Instr.typeAssert (.iface 64 (.agg #[.int .i64 k])) 20 64 true).run Try.prog w = .ok (.tuple #[.agg #[.int .i64 k], .bool true]) w := fun _ => by kernel_rfl
  refine callsDIn_of_wpSIn Try.func35 rfl trivial fun c₀ cs hu => ?_
  simp only [Try.ntmps35, List.size_toArray, List.length_cons, List.length_nil, Nat.reduceAdd, Nat.reduceSub, Array.replicate_succ, Array.replicate_zero, List.push_toArray, List.append_toArray, List.nil_append, List.cons_append]
  apply wpSIn_seq
  apply wpSIn_region
  simp [wpOpsSIn, go_sem, recoverD, hu, hta, Exit.thenS]
  refine wpSIn_of_wpIn rfl (wpIn_wide.2 ?_)
  have HU := Lib.hid hu
  clear hu
  refine wp_world (F := fun w2 => Below w.heap.size w w2 ∧ w2.cell? ⟨w.heap.size, 0, none⟩ = some (.int .i64 k) ∧ w.heap.size < w2.heap.size) ⟨(Below.refl _ _).alloc (Nat.le_refl _) _, World.cell?_alloc_at (hn := by simp) .., by simp⟩ ?_
  rintro w2 ⟨hB, hc, hs⟩
  have d0 := below_cell hB hc0
  have d1 := below_cell hB hc1
  have d2 := below_cell hB hc2
  have f0 := (hB.frozen (p := ⟨b0, 0, none⟩) (by show b0 < _; omega)).trans hz0
  have f1 := (hB.frozen (p := ⟨b0 + 1, 0, none⟩) (by show b0 + 1 < _; omega)).trans hz1
  have f2 := (hB.frozen (p := ⟨b0 + 2, 0, none⟩) (by show b0 + 2 < _; omega)).trans hz2
  have n0 : ¬ b0 = w.heap.size := by omega
  have n1 : ¬ b0 + 1 = w.heap.size := by omega
  have n2 : ¬ b0 + 2 = w.heap.size := by omega
  have n3 : ¬ w.heap.size = b0 := by omega
  have HB := Lib.hid hB
  clear hB hc0 hc1 hc2 hz0 hz1 hz2
  go_wp2_with fail
  go_region
  go_wp2_with fail
  exact ⟨rfl, _, rfl, _, results_none rfl _ _ _, rfl, rfl, w2, HB.out, rfl⟩
end Go.Proofs.Ytigppjgmfonodaa
