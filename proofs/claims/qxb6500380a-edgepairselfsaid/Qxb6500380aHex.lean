import Derived.Test.Qxb6500380aProg
import Derived.WalkKit
import Derived.WalkSpells
import Derived.WalkLawsBesides
import Derived.Deep.QuietTactic
import Derived.BigQuiet
namespace Go.Proofs.Qxb6500380a
open Go.RowKit

/-- The sixteen hex digits. -/
def digs : ByteArray := { data := #[48, 49, 50, 51, 52, 53, 54, 55, 56, 57, 97, 98, 99, 100, 101, 102] }
/-- Two hex digits of a byte. -/
def hexBA (v : Nat) : ByteArray := digs.extract (v / 16) (v / 16 + 1) ++ digs.extract (v % 16) (v % 16 + 1)

theorem and_lo (v : Nat) (hv : v < 256) : bits BinOp.and IntKind.i64 (v : Int) 15 = ((v % 16 : Nat) : Int) := by
  have h : ∀ v : Nat, v < 256 → bits BinOp.and IntKind.i64 (v : Int) 15 = ((v % 16 : Nat) : Int) := by decide +kernel
  exact h v hv
theorem and_hi (v : Nat) (hv : v < 256) : bits BinOp.and IntKind.i64 ((v : Int) / 16) 15 = ((v / 16 : Nat) : Int) := by
  have h : ∀ v : Nat, v < 256 → bits BinOp.and IntKind.i64 ((v : Int) / 16) 15 = ((v / 16 : Nat) : Int) := by decide +kernel
  exact h v hv

set_option maxHeartbeats 400000 in
theorem hex2_any (v : Nat) (hv : v < 256) (w : World) :
    Calls Try.prog 27 #[.int .i64 v] w fun e w' => e = .returned (.string (hexBA v)) ∧ ∃ n, w' = w.drewN n := by
  have hlo := and_lo v hv
  have hhi := and_hi v hv
  obtain ⟨h, eh⟩ : ∃ h, v / 16 = h := ⟨_, rfl⟩
  obtain ⟨l, el⟩ : ∃ l, v % 16 = l := ⟨_, rfl⟩
  have hh : h < 16 := by omega
  have hl : l < 16 := by omega
  rw [el] at hlo
  rw [eh] at hhi
  have e : hexBA v = digs.extract h (h + 1) ++ digs.extract l (l + 1) := by unfold hexBA; rw [eh, el]
  rw [e]
  clear e eh el
  go_enter Try.func27, Try.ntmps27
  go_wp2
  go_quiet (fail)
  go_wp2
  go_ret
  exact ⟨rfl, nq, rfl⟩
end Go.Proofs.Qxb6500380a
