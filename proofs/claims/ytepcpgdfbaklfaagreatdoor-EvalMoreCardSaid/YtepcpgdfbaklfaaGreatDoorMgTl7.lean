/-
  (*tmpl.look).parts where there is no part. The condition: as XTlk's.
-/
/-
  The contract of (*tmpl.look).parts. The condition: as XTlk's.
-/
import Derived.Test.YtepcpgdfbaklfaaGreatDoorTl0M
import Derived.Test.YtepcpgdfbaklfaaGreatDoorTl1M
import Derived.Test.YtepcpgdfbaklfaaGreatDoorMgTl2
import Derived.Test.YtepcpgdfbaklfaaGreatDoorTl4M
import Derived.Test.YtepcpgdfbaklfaaGreatDoorTl5M
set_option linter.unusedVariables false
namespace Go.Proofs.YtepcpgdfbaklfaaGreatDoor
open Go.RowKit Go.Shelf

theorem parts_some (B bx : Nat) (hBx : B ≤ bx) (hgl : GlB B) (ds : List Df) (hdl : ds.length ≤ 16777216) (dv : Value) (n : Nat) (ih : LkSaid B bx ds dv n)
    (K : ∀ t hn deep0 free c many deep tw no w HSM hm hd hdp HGD HDF h1 h2 HLK b o hlc hdc, ∀ u, u ∈ [0, 1, 2, 3, 5] → (partsCap B bx hBx hgl ds hdl dv n ih t hn deep0 free c many deep tw no w HSM hm hd hdp HGD HDF h1 h2 HLK b o hlc hdc).1 u) : LkSaid B bx ds dv (n + 1) := by
  intro t hn deep0 free v many deep tw no w hsm hm hd hdp hgd hdf hp hlk
  obtain ⟨a, c, rfl, h1, h2, h3⟩ := hp
  have hlc := len_le_cnt t
  have hdc := deep_le_cnt t
  obtain ⟨b, o, hrow⟩ : ∃ b o, t ≠ .nil → a = some ⟨b, o, none⟩ ∧ b < B ∧ Row (· < B) w t b o := by
    by_cases ht : t = .nil
    · exact ⟨0, 0, fun h => absurd ht h⟩
    · obtain ⟨b, o, r⟩ := h3 ht
      exact ⟨b, o, fun _ => r⟩
  exact (partsCap B bx hBx hgl ds hdl dv n ih t hn deep0 free c many deep tw no w hsm hm hd hdp hgd hdf h1 h2 hlk b o hlc hdc).2 a hrow (K t hn deep0 free c many deep tw no w hsm hm hd hdp hgd hdf h1 h2 hlk b o hlc hdc)
theorem lk_all (B bx : Nat) (ds : List Df) (dv : Value) (S : ∀ n, LkSaid B bx ds dv n → LkSaid B bx ds dv (n + 1)) (n : Nat) : LkSaid B bx ds dv n := by
  induction n with
  | zero => intro t hn; omega
  | succ n ih => exact S n ih
end Go.Proofs.YtepcpgdfbaklfaaGreatDoor
set_option linter.unusedVariables false
namespace Go.Proofs.YtepcpgdfbaklfaaGreatDoor
open Go.RowKit Go.Shelf

theorem parts_calls (B bx : Nat) (hBx : B ≤ bx) (hgl : GlB B) (ds : List Df) (hdl : ds.length ≤ 16777216) (dv : Value) (n : Nat) : LkSaid B bx ds dv n := by
  refine lk_all B bx ds dv (fun n ih => parts_some B bx hBx hgl ds hdl dv n ih ?_) n
  intro t hn deep0 free c many deep tw no w HSM hm hd hdp HGD HDF h1 h2 HLK b o hlc hdc u hu
  simp only [List.mem_cons, List.mem_nil_iff, or_false] at hu
  rcases hu with rfl | rfl | rfl | rfl | rfl
  · exact parts_k0 B bx hBx hgl ds hdl dv n ih t hn deep0 free c many deep tw no w HSM hm hd hdp HGD HDF h1 h2 HLK b o hlc hdc
  · exact parts_k1 B bx hBx hgl ds hdl dv n ih t hn deep0 free c many deep tw no w HSM hm hd hdp HGD HDF h1 h2 HLK b o hlc hdc
  · exact parts_k2 B bx hBx hgl ds hdl dv n ih t hn deep0 free c many deep tw no w HSM hm hd hdp HGD HDF h1 h2 HLK b o hlc hdc
  · exact parts_k3 B bx hBx hgl ds hdl dv n ih t hn deep0 free c many deep tw no w HSM hm hd hdp HGD HDF h1 h2 HLK b o hlc hdc
  · exact parts_k5 B bx hBx hgl ds hdl dv n ih t hn deep0 free c many deep tw no w HSM hm hd hdp HGD HDF h1 h2 HLK b o hlc hdc
end Go.Proofs.YtepcpgdfbaklfaaGreatDoor
