/-
  bytes.makeASCIISet of the two bytes of a line's end, and contains.
-/
import Derived.Test.YtpgjlepjhbjhfaaDoorOwn
import Derived.Lib.AsciiSet
import Derived.Laws.ResultCell
import Derived.Deep.WholeRow
namespace Go.Proofs.YtpgjlepjhbjhfaaDoor
open Go.RowKit

abbrev crlf : ByteArray := ⟨#[13, 10]⟩
theorem zero82 : Tryd.zeroCells82 = Lib.setCells [] := by kernel_rfl
theorem size82 : (Tryd.prog.info? 82).map (·.size) = some 256 := by kernel_rfl

theorem wp_load {P : Program} {o : Oper} {a : Act} {w : World} {K : Act → World → Prop} {Q : Exit → Act → World → Prop} (t : TypeId) (x : Operand) (h : o.op = .load t x) {v : Value}
    (hv : (Instr.loadAt t (a.eval x)).run P w = .ok v w) (hk : K (a.put o.dst v) w) : o.wp P a w K Q := by
  unfold Oper.wp execOp
  rw [h]
  simp only [Sem.run_bind, hv, Result.andThen]
  exact hk
set_option maxHeartbeats 4000000 in
set_option maxRecDepth 100000 in
theorem asciiSet_any (w : World) :
    Calls Tryd.prog 63 #[.string crlf] w fun e w' => e = .returned (.tuple #[.agg (Lib.setCells [13, 10]), .bool true]) ∧ w' = w.alloc (.cells (Lib.setCells [13, 10]) 82) := by
  go_enter Tryd.func63, Tryd.ntmps63
  go_wp2_with fail
  rw [zero82]
  go_loopw [4] (fun i wr => ∃ k : Nat, k ≤ 2 ∧ i = .int .i64 k ∧ wr = w.alloc (.cells (Lib.setCells ([13, 10].take k)) 82)) (fun i _ => 2 - (intOf i).toNat)
  case atStart => exact ⟨0, by omega, rfl, rfl⟩
  case round =>
    obtain ⟨k, hk, rfl, rfl⟩ := hrel
    have h3 : k = 0 ∨ k = 1 ∨ k = 2 := by omega
    rcases h3 with rfl | rfl | rfl
    · have hcell := Lib.setCells_at [] 13
      go_wp2_with fail
      go_roundw
      case rel => exact ⟨1, by omega, by go_num, congrArg (fun a => w.alloc (.cells a 82)) (Lib.setCells_snoc [] 13).symm⟩
      case measure => simp [intOf]
    · have hcell := Lib.setCells_at [13] 10
      go_wp2_with fail
      go_roundw
      case rel => exact ⟨2, by omega, by go_num, congrArg (fun a => w.alloc (.cells a 82)) (Lib.setCells_snoc [13] 10).symm⟩
      case measure => simp [intOf]
    · have hsz : (Lib.setCells [13, 10]).size = 256 := Lib.setCells_size _
      have hld := run_loadVar_new (P := Tryd.prog) w 82 (Lib.setCells [13, 10]) 256 4 Tryd.underlying82 (by rw [hsz]; exact size82)
      have hsc := run_storeCells_new (P := Tryd.prog) w 82 (Lib.setCells [13, 10]) (Lib.setCells [13, 10]) (by rw [hsz]; exact size82) rfl (Lib.setCells_one _)
      go_wp2_with fail
      have hl2 : (Instr.loadAt 82 (.pointer (some ⟨w.heap.size, 0, none⟩))).run Tryd.prog (w.alloc (.cells (Lib.setCells [13, 10]) 82)) = .ok (.agg (Lib.setCells [13, 10])) (w.alloc (.cells (Lib.setCells [13, 10]) 82)) := by
        simp [Instr.loadAt, Instr.sureAddr, hld]
      refine wp_load _ _ rfl hl2 ?_
      go_wp2
      (try simp only [Exit.inBlock, Exit.then])
      refine bodyPost_ret (v := .tuple #[.agg (Lib.setCells [13, 10]), .bool true]) ?_ rfl ⟨rfl, rfl⟩
      rw [results_cell_tmp rfl]
      simp [asAddr, Result.andThen, hld]
end Go.Proofs.YtpgjlepjhbjhfaaDoor
