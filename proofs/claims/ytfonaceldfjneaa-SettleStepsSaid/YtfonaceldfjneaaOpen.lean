/- The walks of Open, Of. -/
import Derived.Test.YtfonaceldfjneaaSeal
import Derived.Deep.QuietTactic
import Derived.BigQuiet
namespace Go.Proofs.Ytfonaceldfjneaa
open Go.RowKit

def OpenPost (w : World) (s : Bs) (e : Ending) (w' : World) : Prop :=
  e = .returned (.tuple #[.int .i8 (openR s).1, .string (mkS (openR s).2.1), .int .i64 (openR s).2.2]) ∧ Below w.heap.size w w'

theorem getD_byte (s : ByteArray) (h : 0 < s.size) : s.data.toList.getD 0 0 = s[0] := by
  rw [List.getD_eq_getElem?_getD, List.getElem?_eq_getElem (by simpa using h), Option.getD_some, bytes_getElem s 0 h]

theorem open_fail (s : ByteArray) (w : World) (hr : openR s.data.toList = (0, [], 30)) (e : Ending) (w' : World)
    (h : e = .returned (.tuple #[.int .i8 0, .string (mkS []), .int .i64 30]) ∧ Below w.heap.size w w') : OpenPost w s.data.toList e w' := by
  unfold OpenPost; rw [hr]; exact h

theorem seal_one : sealR 1 [] = ([1, 0, 0] ++ leBytes 4 (crcSum [1, 0, 0]), 0) := by rw [sealR_ok (by omega) (by simp)]; rfl
end Go.Proofs.Ytfonaceldfjneaa
