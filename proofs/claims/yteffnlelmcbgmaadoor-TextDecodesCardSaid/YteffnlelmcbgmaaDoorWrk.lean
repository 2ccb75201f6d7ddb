/-
  Feed over lists; what the examples of chapter 1 come to; the contract of lacunalaw01.works: it returns true. The condition: the tables and the library's shape stand.
-/
import Derived.Test.YteffnlelmcbgmaaDoorFeed
import Derived.Test.YteffnlelmcbgmaaDoorCls
import Derived.Test.YteffnlelmcbgmaaDoorAt
set_option linter.unusedVariables false
namespace Go.Proofs.YteffnlelmcbgmaaDoor
open Go.RowKit Go.Shelf

/-- What Feed hands out, what it keeps; whether a byte 13 was the last one. -/
def fdO (part b : List UInt8) (cr : Bool) : List UInt8 × Bool := crF cr (pts ((part ++ b).take (waitsP (part ++ b))))
def fdP (part b : List UInt8) : List UInt8 := (part ++ b).drop (waitsP (part ++ b))

theorem feedL_calls (D : Nat) (part b : List UInt8) (cr : Bool) (w : World) (hs : part.length + b.length ≤ 268435456) (hT : Tabs w) (hD : w.heap[D]? = some (.cells #[.string ⟨part.toArray⟩, .bool cr] 33 (0, 0)))
    (hg1 : 0 < D) (hg2 : 1 < D) :
    Calls Tryd.prog 13 #[.pointer (some ⟨D, 0, none⟩), .string ⟨b.toArray⟩] w fun e w' =>
      e = .returned (.string ⟨(fdO part b cr).1.toArray⟩) ∧
      w'.heap[D]? = some (.cells #[.string ⟨(fdP part b).toArray⟩, .bool (fdO part b cr).2] 33 (0, 0)) ∧ Below D w w' := by
  have key : ((⟨part.toArray⟩ : ByteArray) ++ (⟨b.toArray⟩ : ByteArray)) = ⟨(part ++ b).toArray⟩ := by
    apply ByteArray.ext
    simp
  have hx : ((⟨(part ++ b).toArray⟩ : ByteArray).extract (waitsP (part ++ b)) (⟨(part ++ b).toArray⟩ : ByteArray).size) = ⟨(fdP part b).toArray⟩ := by
    apply ByteArray.ext
    rw [← Array.toList_inj, Lib.extract_data]
    unfold fdP
    show ((part ++ b).drop _).take ((part ++ b).length - _) = _
    rw [List.take_of_length_le (by simp)]
  refine (feed_calls D ⟨part.toArray⟩ ⟨b.toArray⟩ cr w hs hT hD hg1 hg2).mono ?_
  rw [key]
  rintro e w' ⟨rfl, h1, h2⟩
  refine ⟨rfl, ?_, h2⟩
  rw [h1]
  show some (Obj.cells #[.string ((⟨(part ++ b).toArray⟩ : ByteArray).extract (waitsP (part ++ b)) (⟨(part ++ b).toArray⟩ : ByteArray).size), _] _ _) = _
  rw [hx]
  rfl

theorem works_dec1 : decd [97, 226, 130, 98] = [97, 239, 191, 189, 98] := by decide +kernel
theorem works_dec2 : decd [237, 160, 128] = [239, 191, 189, 239, 191, 189, 239, 191, 189] := by decide +kernel
theorem works_inp : inp [97, 13, 10, 98, 13, 99, 13] = [97, 10, 98, 10, 99, 10] := by decide +kernel
theorem works_f1 : fdO [] [97, 13] false = ([97, 10], true) ∧ fdP [] [97, 13] = [] := by decide +kernel
theorem works_f2 : fdO [] [10, 226] true = ([], false) ∧ fdP [] [10, 226] = [226] := by decide +kernel
theorem works_f3 : fdO [226] [130] false = ([], false) ∧ fdP [226] [130] = [226, 130] := by decide +kernel
theorem works_cl : decd [226, 130] = [239, 191, 189] := by decide +kernel
theorem works_ex : (⟨#[97, 98, 10, 99, 100]⟩ : ByteArray).extract 0 4 = ⟨#[97, 98, 10, 99]⟩ := by
  apply ByteArray.ext
  rw [← Array.toList_inj, Lib.extract_data]
  rfl
theorem works_at1 : lineOf ⟨#[97, 98, 10, 99]⟩ = 2 := by decide +kernel
theorem works_at2 : colOf ⟨#[97, 98, 10, 99]⟩ = 2 := by decide +kernel
end Go.Proofs.YteffnlelmcbgmaaDoor
