import Derived.Test.YtchibinlcedjaaaH4
namespace Go.Proofs.Ytchibinlcedjaaa
open Go.RowKit
def regionOf (n : Nat) : Code → Option Code
  | .region m ops d => if m = n then some (.region m ops d) else none
  | .block _ c => regionOf n c
  | .seq a b => match regionOf n a with
    | some c => some c
    | none => regionOf n b
  | .loop c => regionOf n c
  | .scope c => regionOf n c
  | .cond _ a b => match regionOf n a with
    | some c => some c
    | none => regionOf n b
  | _ => none
noncomputable def ops10 : Array Oper := match (Try.f3.body.bind (regionOf 10)) with
  | some (.region _ ops _) => ops
  | _ => #[]

theorem op10_0 : ∃ o, ops10[0]? = some o ∧ o.op = .move (.tmp 7) ∧ o.dst = some 28 ∧ o.guard = none := ⟨_, by rfl, by rfl, by rfl, by rfl⟩
theorem op10_1 : ∃ o, ops10[1]? = some o ∧ o.op = .move (.tmp 7) ∧ o.dst = some 29 ∧ o.guard = none := ⟨_, by rfl, by rfl, by rfl, by rfl⟩
theorem op10_2 : ∃ o, ops10[2]? = some o ∧ o.op = .move (.tmp 7) ∧ o.dst = some 30 ∧ o.guard = none := ⟨_, by rfl, by rfl, by rfl, by rfl⟩
theorem op10_3 : ∃ o, ops10[3]? = some o ∧ o.op = .move (.tmp 7) ∧ o.dst = some 31 ∧ o.guard = none := ⟨_, by rfl, by rfl, by rfl, by rfl⟩
theorem op10_4 : ∃ o, ops10[4]? = some o ∧ o.op = .nilCheck (.tmp 31) ∧ o.dst = some 32 ∧ o.guard = none := ⟨_, by rfl, by rfl, by rfl, by rfl⟩
theorem op10_5 : ∃ o, ops10[5]? = some o ∧ o.op = .fieldAddr 30 (.tmp 32) 0 ∧ o.dst = some 33 ∧ o.guard = none := ⟨_, by rfl, by rfl, by rfl, by rfl⟩
theorem op10_6 : ∃ o, ops10[6]? = some o ∧ o.op = .load 27 (.tmp 33) ∧ o.dst = some 34 ∧ o.guard = none := ⟨_, by rfl, by rfl, by rfl, by rfl⟩
theorem op10_7 : ∃ o, ops10[7]? = some o ∧ o.op = .makeSlice 31 (.const (.int .i64 64)) (.const (.int .i64 64)) ∧ o.dst = some 35 ∧ o.guard = none := ⟨_, by rfl, by rfl, by rfl, by rfl⟩
theorem op10_8 : ∃ o, ops10[8]? = some o ∧ o.op = .buildSlice 27 1 #[(0, .tmp 35)] ∧ o.dst = some 36 ∧ o.guard = none := ⟨_, by rfl, by rfl, by rfl, by rfl⟩
theorem op10_9 : ∃ o, ops10[9]? = some o ∧ o.op = .call { callee := .builtin .append, args := #[.tmp 34, .tmp 36], argTypes := #[27, 27] } ∧ o.dst = some 37 ∧ o.guard = none := ⟨_, by rfl, by rfl, by rfl, by rfl⟩
theorem op10_10 : ∃ o, ops10[10]? = some o ∧ o.op = .move (.tmp 7) ∧ o.dst = some 38 ∧ o.guard = none := ⟨_, by rfl, by rfl, by rfl, by rfl⟩
theorem op10_11 : ∃ o, ops10[11]? = some o ∧ o.op = .nilCheck (.tmp 38) ∧ o.dst = some 39 ∧ o.guard = none := ⟨_, by rfl, by rfl, by rfl, by rfl⟩
theorem op10_12 : ∃ o, ops10[12]? = some o ∧ o.op = .fieldAddr 30 (.tmp 39) 1 ∧ o.dst = some 40 ∧ o.guard = none := ⟨_, by rfl, by rfl, by rfl, by rfl⟩
theorem op10_13 : ∃ o, ops10[13]? = some o ∧ o.op = .load 27 (.tmp 40) ∧ o.dst = some 41 ∧ o.guard = none := ⟨_, by rfl, by rfl, by rfl, by rfl⟩
theorem op10_14 : ∃ o, ops10[14]? = some o ∧ o.op = .makeSlice 31 (.const (.int .i64 64)) (.const (.int .i64 64)) ∧ o.dst = some 42 ∧ o.guard = none := ⟨_, by rfl, by rfl, by rfl, by rfl⟩
theorem op10_15 : ∃ o, ops10[15]? = some o ∧ o.op = .buildSlice 27 1 #[(0, .tmp 42)] ∧ o.dst = some 43 ∧ o.guard = none := ⟨_, by rfl, by rfl, by rfl, by rfl⟩
theorem op10_16 : ∃ o, ops10[16]? = some o ∧ o.op = .call { callee := .builtin .append, args := #[.tmp 41, .tmp 43], argTypes := #[27, 27] } ∧ o.dst = some 44 ∧ o.guard = none := ⟨_, by rfl, by rfl, by rfl, by rfl⟩
theorem op10_17 : ∃ o, ops10[17]? = some o ∧ o.op = .move (.tmp 7) ∧ o.dst = some 45 ∧ o.guard = none := ⟨_, by rfl, by rfl, by rfl, by rfl⟩
theorem op10_18 : ∃ o, ops10[18]? = some o ∧ o.op = .nilCheck (.tmp 45) ∧ o.dst = some 46 ∧ o.guard = none := ⟨_, by rfl, by rfl, by rfl, by rfl⟩
theorem op10_19 : ∃ o, ops10[19]? = some o ∧ o.op = .fieldAddr 30 (.tmp 46) 2 ∧ o.dst = some 47 ∧ o.guard = none := ⟨_, by rfl, by rfl, by rfl, by rfl⟩
theorem op10_20 : ∃ o, ops10[20]? = some o ∧ o.op = .load 28 (.tmp 47) ∧ o.dst = some 48 ∧ o.guard = none := ⟨_, by rfl, by rfl, by rfl, by rfl⟩
theorem op10_21 : ∃ o, ops10[21]? = some o ∧ o.op = .buildSlice 28 1 #[(0, .const (.bool false))] ∧ o.dst = some 49 ∧ o.guard = none := ⟨_, by rfl, by rfl, by rfl, by rfl⟩
theorem op10_22 : ∃ o, ops10[22]? = some o ∧ o.op = .call { callee := .builtin .append, args := #[.tmp 48, .tmp 49], argTypes := #[28, 28] } ∧ o.dst = some 50 ∧ o.guard = none := ⟨_, by rfl, by rfl, by rfl, by rfl⟩
theorem op10_23 : ∃ o, ops10[23]? = some o ∧ o.op = .nilCheck (.tmp 28) ∧ o.dst = some 51 ∧ o.guard = none := ⟨_, by rfl, by rfl, by rfl, by rfl⟩
theorem op10_24 : ∃ o, ops10[24]? = some o ∧ o.op = .fieldAddr 30 (.tmp 51) 0 ∧ o.dst = some 52 ∧ o.guard = none := ⟨_, by rfl, by rfl, by rfl, by rfl⟩
theorem op10_25 : ∃ o, ops10[25]? = some o ∧ o.op = .store 27 (.tmp 52) (.tmp 37) ∧ o.dst = none ∧ o.guard = none := ⟨_, by rfl, by rfl, by rfl, by rfl⟩
theorem op10_26 : ∃ o, ops10[26]? = some o ∧ o.op = .nilCheck (.tmp 29) ∧ o.dst = some 53 ∧ o.guard = none := ⟨_, by rfl, by rfl, by rfl, by rfl⟩
theorem op10_27 : ∃ o, ops10[27]? = some o ∧ o.op = .fieldAddr 30 (.tmp 53) 1 ∧ o.dst = some 54 ∧ o.guard = none := ⟨_, by rfl, by rfl, by rfl, by rfl⟩
theorem op10_28 : ∃ o, ops10[28]? = some o ∧ o.op = .store 27 (.tmp 54) (.tmp 44) ∧ o.dst = none ∧ o.guard = none := ⟨_, by rfl, by rfl, by rfl, by rfl⟩
theorem op10_29 : ∃ o, ops10[29]? = some o ∧ o.op = .nilCheck (.tmp 30) ∧ o.dst = some 55 ∧ o.guard = none := ⟨_, by rfl, by rfl, by rfl, by rfl⟩
theorem op10_30 : ∃ o, ops10[30]? = some o ∧ o.op = .fieldAddr 30 (.tmp 55) 2 ∧ o.dst = some 56 ∧ o.guard = none := ⟨_, by rfl, by rfl, by rfl, by rfl⟩
theorem op10_31 : ∃ o, ops10[31]? = some o ∧ o.op = .store 28 (.tmp 56) (.tmp 50) ∧ o.dst = none ∧ o.guard = none := ⟨_, by rfl, by rfl, by rfl, by rfl⟩
theorem sel10 : Region.noSelect ops10 = true := by kernel_rfl
end Go.Proofs.Ytchibinlcedjaaa