/-
  What the program's own tables of zeros come to: closed facts, by the kernel.
-/
import Derived.Test.YtfnajddkaapejaaDoorTab
namespace Go.Proofs.YtfnajddkaapejaaDoor
open Go.RowKit
theorem build_made (w : World) : (Instr.build 53 #[(0, .bool true)]).run Tryd.prog w = .ok (.agg (tabA true fun _ => 0)) w := by kernel_rfl
theorem build_none (w : World) : (Instr.build 53 #[]).run Tryd.prog w = .ok (.agg (tabA false fun _ => 0)) w := by kernel_rfl
theorem exec_made (o : Oper) (ho : o.op = .build 53 #[(0, .const (.bool true))]) (a : Act) (w : World) : (execOp a.eval o).run Tryd.prog w = .ok (.value (.agg (tabA true fun _ => 0))) w := by
  have h := build_made w
  simp only [execOp, ho]
  rw [Sem.run_bind]
  rw [show (Array.map (fun x : Nat × Operand => (x.fst, a.eval x.snd)) #[(0, Operand.const (Value.bool true))]) = #[(0, .bool true)] from by simp [Act.eval], h]
  rfl
theorem exec_none (o : Oper) (ho : o.op = .build 53 #[]) (a : Act) (w : World) : (execOp a.eval o).run Tryd.prog w = .ok (.value (.agg (tabA false fun _ => 0))) w := by
  have h := build_none w
  simp only [execOp, ho]
  rw [Sem.run_bind]
  rw [show (Array.map (fun x : Nat × Operand => (x.fst, a.eval x.snd)) #[]) = #[] from by simp, h]
  rfl
end Go.Proofs.YtfnajddkaapejaaDoor
