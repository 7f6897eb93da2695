/- A text out of one byte. -/
import Derived.Test.YthopednilgncgaaDoorBase
namespace Go.Proofs.YthopednilgncgaaDoor
open Go.RowKit

theorem run_oneByte {P : Program} {src dst e : TypeId} (hs : P.underlying src = some (.slice e)) (he : P.underlying e = some (.int .u8)) (hd : P.underlying dst = some .string) (n : Int) (w : World) :
    (convert src dst (.slice (some ⟨w.heap.size, 0, none⟩) 1 1)).run P (w.alloc (.cells #[.int .u8 n] e)) = .ok (.string ⟨#[UInt8.ofNat n.toNat]⟩) (w.alloc (.cells #[.int .u8 n] e)) := by
  rw [run_convert_bytes_string _ src dst e _ _ _ hs he hd, run_bytesToString _ _ _ _ [n]]
  · rfl
  · exact run_loadCells_list (w := w.alloc (.cells #[.int .u8 n] e)) ⟨w.heap.size, 0, none⟩ [.int .u8 n] (fun j v hv => by
      cases j with
      | zero => exact (Blk.new w e #[.int .u8 n]).range 0 v hv
      | succ j => simp at hv)

end Go.Proofs.YthopednilgncgaaDoor
