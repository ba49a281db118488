/- Texts and their bytes. -/
import Derived.Test.YthgppbpmcjkadaaGreatDoorPlA
import Derived.Test.YthgppbpmcjkadaaGreatDoorWWords
set_option linter.unusedVariables false
set_option linter.unusedSimpArgs false
namespace Go.Proofs.YthgppbpmcjkadaaGreatDoor.X
open Go.RowKit Go.Proofs.YthgppbpmcjkadaaGreatDoorW.PrintWords
/-- A text out of its bytes. -/
def bs (l : List UInt8) : ByteArray := ⟨l.toArray⟩
theorem bs_data (l : List UInt8) : (bs l).data.toList = l := rfl
theorem bs_size (l : List UInt8) : (bs l).size = l.length := List.size_toArray
theorem bs_of (c : ByteArray) : bs c.data.toList = c := rfl
theorem bs_app (a b : List UInt8) : bs a ++ bs b = bs (a ++ b) := by
  apply ByteArray.ext
  rw [ByteArray.data_append]
  simp [bs]
theorem bs_inj {a b : List UInt8} (h : bs a = bs b) : a = b := congrArg (fun c : ByteArray => c.data.toList) h
theorem len_list (c : ByteArray) : c.data.toList.length = c.size := Array.length_toList
theorem ext_list (s : ByteArray) (i j : Nat) : (s.extract i j).data.toList = (s.data.toList.take j).drop i := by
  simp [Array.toList_extract, List.extract]
  rw [List.drop_take]
theorem ext_one (s : ByteArray) (i : Nat) (h : i < s.size) : s.extract i (i + 1) = bs [s.data.toList[i]'(by rw [len_list]; exact h)] := by
  rw [← bs_of (s.extract i (i + 1)), ext_list, List.drop_take, show i + 1 - i = 1 by omega, List.drop_eq_getElem_cons (by rw [len_list]; exact h)]
  rfl
theorem bt_list (s : ByteArray) (i : Nat) (h : i < s.size) : bt s (i : Int) = ((s.data.toList[i]'(by rw [len_list]; exact h)).toNat : Int) := by
  unfold bt
  rw [dif_pos (by simpa using h)]
  simp [ByteArray.getElem_eq_getElem_data]
theorem byte_eq {x : UInt8} (c : UInt8) {n : Int} (hn : ((c.toNat : Nat) : Int) = n) : ((x.toNat : Nat) : Int) = n ↔ x = c := by
  rw [← UInt8.toNat_inj]
  omega
end Go.Proofs.YthgppbpmcjkadaaGreatDoor.X
