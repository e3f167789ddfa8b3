/- FaultText of the reference and of the program: both return faultText. -/
import Derived.Test.YtgkgoofapgabhaaDoorProg
import Derived.Test.YtgkgoofapgabhaaDoorMem
import Derived.Test.YtgkgoofapgabhaaDoorMapLit
namespace Go.Proofs.YtgkgoofapgabhaaDoor
open Go.RowKit

def fault101 : ByteArray := ⟨#[105, 110, 116, 101, 103, 101, 114, 32, 101, 120, 112, 101, 99, 116, 101, 100, 32, 111, 114, 32, 111, 117, 116, 32, 111, 102, 32, 114, 97, 110, 103, 101]⟩
def fault103 : ByteArray := ⟨#[115, 116, 114, 105, 110, 103, 32, 101, 120, 112, 101, 99, 116, 101, 100]⟩
def fault104 : ByteArray := ⟨#[99, 115, 101, 116, 32, 101, 120, 112, 101, 99, 116, 101, 100]⟩
def fault106 : ByteArray := ⟨#[112, 114, 111, 99, 101, 100, 117, 114, 101, 32, 111, 114, 32, 105, 110, 116, 101, 103, 101, 114, 32, 101, 120, 112, 101, 99, 116, 101, 100]⟩
def fault107 : ByteArray := ⟨#[114, 101, 99, 111, 114, 100, 32, 101, 120, 112, 101, 99, 116, 101, 100]⟩
def fault108 : ByteArray := ⟨#[108, 105, 115, 116, 32, 101, 120, 112, 101, 99, 116, 101, 100]⟩
def fault111 : ByteArray := ⟨#[118, 97, 114, 105, 97, 98, 108, 101, 32, 101, 120, 112, 101, 99, 116, 101, 100]⟩
def fault114 : ByteArray := ⟨#[115, 116, 114, 117, 99, 116, 117, 114, 101, 32, 101, 120, 112, 101, 99, 116, 101, 100]⟩
def fault118 : ByteArray := ⟨#[99, 111, 45, 101, 120, 112, 114, 101, 115, 115, 105, 111, 110, 32, 101, 120, 112, 101, 99, 116, 101, 100]⟩
def fault119 : ByteArray := ⟨#[99, 111, 45, 101, 120, 112, 114, 101, 115, 115, 105, 111, 110, 32, 105, 115, 32, 97, 99, 116, 105, 118, 101]⟩
def fault122 : ByteArray := ⟨#[115, 101, 116, 32, 111, 114, 32, 116, 97, 98, 108, 101, 32, 101, 120, 112, 101, 99, 116, 101, 100]⟩
def fault124 : ByteArray := ⟨#[116, 97, 98, 108, 101, 32, 101, 120, 112, 101, 99, 116, 101, 100]⟩
def fault127 : ByteArray := ⟨#[112, 97, 116, 116, 101, 114, 110, 32, 101, 120, 112, 101, 99, 116, 101, 100]⟩
def fault201 : ByteArray := ⟨#[100, 105, 118, 105, 115, 105, 111, 110, 32, 98, 121, 32, 122, 101, 114, 111]⟩
def fault203 : ByteArray := ⟨#[105, 110, 116, 101, 103, 101, 114, 32, 111, 118, 101, 114, 102, 108, 111, 119]⟩
def fault205 : ByteArray := ⟨#[118, 97, 108, 117, 101, 32, 111, 117, 116, 32, 111, 102, 32, 114, 97, 110, 103, 101]⟩
def fault207 : ByteArray := ⟨#[114, 101, 99, 111, 114, 100, 32, 104, 97, 115, 32, 110, 111, 32, 115, 117, 99, 104, 32, 102, 105, 101, 108, 100]⟩
def fault301 : ByteArray := ⟨#[116, 111, 111, 32, 109, 97, 110, 121, 32, 97, 99, 116, 105, 118, 101, 32, 112, 114, 111, 99, 101, 100, 117, 114, 101, 115]⟩
def fault302 : ByteArray := ⟨#[114, 101, 115, 117, 108, 116, 32, 116, 111, 111, 32, 108, 97, 114, 103, 101]⟩
def faultText (n : Int) : ByteArray :=
  if n = 101 then fault101 else if n = 103 then fault103 else if n = 104 then fault104 else if n = 106 then fault106 else if n = 107 then fault107 else if n = 108 then fault108 else if n = 111 then fault111 else if n = 114 then fault114 else if n = 118 then fault118 else if n = 119 then fault119 else if n = 122 then fault122 else if n = 124 then fault124 else if n = 127 then fault127 else if n = 201 then fault201 else if n = 203 then fault203 else if n = 205 then fault205 else if n = 207 then fault207 else if n = 301 then fault301 else if n = 302 then fault302 else ⟨#[]⟩
def faultM : List (Int × Value × Nat) × Nat :=
  insM (insM (insM (insM (insM (insM (insM (insM (insM (insM (insM (insM (insM (insM (insM (insM (insM (insM (insM ([], 0) 101 (.string fault101)) 103 (.string fault103)) 104 (.string fault104)) 106 (.string fault106)) 107 (.string fault107)) 108 (.string fault108)) 111 (.string fault111)) 114 (.string fault114)) 118 (.string fault118)) 119 (.string fault119)) 122 (.string fault122)) 124 (.string fault124)) 127 (.string fault127)) 201 (.string fault201)) 203 (.string fault203)) 205 (.string fault205)) 207 (.string fault207)) 301 (.string fault301)) 302 (.string fault302)
def faultLit : List (Int × Value × Nat) := [(101, .string fault101, 0), (103, .string fault103, 1), (104, .string fault104, 2), (106, .string fault106, 3), (107, .string fault107, 4), (108, .string fault108, 5), (111, .string fault111, 6), (114, .string fault114, 7), (118, .string fault118, 8), (119, .string fault119, 9), (122, .string fault122, 10), (124, .string fault124, 11), (127, .string fault127, 12), (201, .string fault201, 13), (203, .string fault203, 14), (205, .string fault205, 15), (207, .string fault207, 16), (301, .string fault301, 17), (302, .string fault302, 18)]
theorem faultM_eq : faultM.1 = faultLit := rfl
theorem fault_val (n : Int) : lookM faultM n (.string ByteArray.empty) = .string (faultText n) := by
  rw [lookM, faultM_eq, lookL, faultText]
  unfold faultLit
  by_cases h101 : n = 101
  · subst h101; rfl
  by_cases h103 : n = 103
  · subst h103; rfl
  by_cases h104 : n = 104
  · subst h104; rfl
  by_cases h106 : n = 106
  · subst h106; rfl
  by_cases h107 : n = 107
  · subst h107; rfl
  by_cases h108 : n = 108
  · subst h108; rfl
  by_cases h111 : n = 111
  · subst h111; rfl
  by_cases h114 : n = 114
  · subst h114; rfl
  by_cases h118 : n = 118
  · subst h118; rfl
  by_cases h119 : n = 119
  · subst h119; rfl
  by_cases h122 : n = 122
  · subst h122; rfl
  by_cases h124 : n = 124
  · subst h124; rfl
  by_cases h127 : n = 127
  · subst h127; rfl
  by_cases h201 : n = 201
  · subst h201; rfl
  by_cases h203 : n = 203
  · subst h203; rfl
  by_cases h205 : n = 205
  · subst h205; rfl
  by_cases h207 : n = 207
  · subst h207; rfl
  by_cases h301 : n = 301
  · subst h301; rfl
  by_cases h302 : n = 302
  · subst h302; rfl
  rw [if_neg h101, if_neg h103, if_neg h104, if_neg h106, if_neg h107, if_neg h108, if_neg h111, if_neg h114, if_neg h118, if_neg h119, if_neg h122, if_neg h124, if_neg h127, if_neg h201, if_neg h203, if_neg h205, if_neg h207, if_neg h301, if_neg h302]
  simp [findL, h101, h103, h104, h106, h107, h108, h111, h114, h118, h119, h122, h124, h127, h201, h203, h205, h207, h301, h302]
  rfl
theorem faultText_size (n : Int) : (faultText n).size ≤ 100 := by
  unfold faultText
  by_cases h101 : n = 101
  · subst h101; decide +kernel
  by_cases h103 : n = 103
  · subst h103; decide +kernel
  by_cases h104 : n = 104
  · subst h104; decide +kernel
  by_cases h106 : n = 106
  · subst h106; decide +kernel
  by_cases h107 : n = 107
  · subst h107; decide +kernel
  by_cases h108 : n = 108
  · subst h108; decide +kernel
  by_cases h111 : n = 111
  · subst h111; decide +kernel
  by_cases h114 : n = 114
  · subst h114; decide +kernel
  by_cases h118 : n = 118
  · subst h118; decide +kernel
  by_cases h119 : n = 119
  · subst h119; decide +kernel
  by_cases h122 : n = 122
  · subst h122; decide +kernel
  by_cases h124 : n = 124
  · subst h124; decide +kernel
  by_cases h127 : n = 127
  · subst h127; decide +kernel
  by_cases h201 : n = 201
  · subst h201; decide +kernel
  by_cases h203 : n = 203
  · subst h203; decide +kernel
  by_cases h205 : n = 205
  · subst h205; decide +kernel
  by_cases h207 : n = 207
  · subst h207; decide +kernel
  by_cases h301 : n = 301
  · subst h301; decide +kernel
  by_cases h302 : n = 302
  · subst h302; decide +kernel
  rw [if_neg h101, if_neg h103, if_neg h104, if_neg h106, if_neg h107, if_neg h108, if_neg h111, if_neg h114, if_neg h118, if_neg h119, if_neg h122, if_neg h124, if_neg h127, if_neg h201, if_neg h203, if_neg h205, if_neg h207, if_neg h301, if_neg h302]
  decide
theorem zero_string (W : World) : (zeroValue 9).run Tryd.prog W = .ok (.string ByteArray.empty) W := by kernel_rfl

set_option maxRecDepth 100000 in
set_option maxHeartbeats 1000000 in
theorem impl_FaultText (n : Int) (w : World) :
    Calls Tryd.prog 36 #[.int .i64 n] w fun e w' => e = .returned (.string (faultText n)) ∧ Below w.heap.size w w' := by
  have hmm := @run_makeMapO Tryd.prog
  have hin := run_insertO (P := Tryd.prog) 69 3 9 Tryd.underlying69 Tryd.underlying3
  have hlk := run_lookupO (P := Tryd.prog) 69 3 9 _ Tryd.underlying69 Tryd.underlying3 zero_string
  go_enter Tryd.func36, Tryd.ntmps36
  go_wp2_with fail
  go_ret
  exact ⟨congrArg Ending.returned (fault_val n), (Below.refl _ _).alloc (Nat.le_refl _) _⟩

set_option maxRecDepth 100000 in
set_option maxHeartbeats 4000000 in
theorem spec_FaultText (n : Int) (w : World) :
    Calls Tryd.prog 33 #[.int .i64 n] w fun e w' => e = .returned (.string (faultText n)) ∧ w = w' := by

  by_cases h101 : n = 101
  · subst h101
    go_enter Tryd.func33, Tryd.ntmps33
    go_wp2_with fail
    go_ret
    exact ⟨rfl, rfl⟩
  have b101 : (n == 101) = false := beq_eq_false_iff_ne.2 h101
  by_cases h103 : n = 103
  · subst h103
    go_enter Tryd.func33, Tryd.ntmps33
    go_wp2_with fail
    go_ret
    exact ⟨rfl, rfl⟩
  have b103 : (n == 103) = false := beq_eq_false_iff_ne.2 h103
  by_cases h104 : n = 104
  · subst h104
    go_enter Tryd.func33, Tryd.ntmps33
    go_wp2_with fail
    go_ret
    exact ⟨rfl, rfl⟩
  have b104 : (n == 104) = false := beq_eq_false_iff_ne.2 h104
  by_cases h106 : n = 106
  · subst h106
    go_enter Tryd.func33, Tryd.ntmps33
    go_wp2_with fail
    go_ret
    exact ⟨rfl, rfl⟩
  have b106 : (n == 106) = false := beq_eq_false_iff_ne.2 h106
  by_cases h107 : n = 107
  · subst h107
    go_enter Tryd.func33, Tryd.ntmps33
    go_wp2_with fail
    go_ret
    exact ⟨rfl, rfl⟩
  have b107 : (n == 107) = false := beq_eq_false_iff_ne.2 h107
  by_cases h108 : n = 108
  · subst h108
    go_enter Tryd.func33, Tryd.ntmps33
    go_wp2_with fail
    go_ret
    exact ⟨rfl, rfl⟩
  have b108 : (n == 108) = false := beq_eq_false_iff_ne.2 h108
  by_cases h111 : n = 111
  · subst h111
    go_enter Tryd.func33, Tryd.ntmps33
    go_wp2_with fail
    go_ret
    exact ⟨rfl, rfl⟩
  have b111 : (n == 111) = false := beq_eq_false_iff_ne.2 h111
  by_cases h114 : n = 114
  · subst h114
    go_enter Tryd.func33, Tryd.ntmps33
    go_wp2_with fail
    go_ret
    exact ⟨rfl, rfl⟩
  have b114 : (n == 114) = false := beq_eq_false_iff_ne.2 h114
  by_cases h118 : n = 118
  · subst h118
    go_enter Tryd.func33, Tryd.ntmps33
    go_wp2_with fail
    go_ret
    exact ⟨rfl, rfl⟩
  have b118 : (n == 118) = false := beq_eq_false_iff_ne.2 h118
  by_cases h119 : n = 119
  · subst h119
    go_enter Tryd.func33, Tryd.ntmps33
    go_wp2_with fail
    go_ret
    exact ⟨rfl, rfl⟩
  have b119 : (n == 119) = false := beq_eq_false_iff_ne.2 h119
  by_cases h122 : n = 122
  · subst h122
    go_enter Tryd.func33, Tryd.ntmps33
    go_wp2_with fail
    go_ret
    exact ⟨rfl, rfl⟩
  have b122 : (n == 122) = false := beq_eq_false_iff_ne.2 h122
  by_cases h124 : n = 124
  · subst h124
    go_enter Tryd.func33, Tryd.ntmps33
    go_wp2_with fail
    go_ret
    exact ⟨rfl, rfl⟩
  have b124 : (n == 124) = false := beq_eq_false_iff_ne.2 h124
  by_cases h127 : n = 127
  · subst h127
    go_enter Tryd.func33, Tryd.ntmps33
    go_wp2_with fail
    go_ret
    exact ⟨rfl, rfl⟩
  have b127 : (n == 127) = false := beq_eq_false_iff_ne.2 h127
  by_cases h201 : n = 201
  · subst h201
    go_enter Tryd.func33, Tryd.ntmps33
    go_wp2_with fail
    go_ret
    exact ⟨rfl, rfl⟩
  have b201 : (n == 201) = false := beq_eq_false_iff_ne.2 h201
  by_cases h203 : n = 203
  · subst h203
    go_enter Tryd.func33, Tryd.ntmps33
    go_wp2_with fail
    go_ret
    exact ⟨rfl, rfl⟩
  have b203 : (n == 203) = false := beq_eq_false_iff_ne.2 h203
  by_cases h205 : n = 205
  · subst h205
    go_enter Tryd.func33, Tryd.ntmps33
    go_wp2_with fail
    go_ret
    exact ⟨rfl, rfl⟩
  have b205 : (n == 205) = false := beq_eq_false_iff_ne.2 h205
  by_cases h207 : n = 207
  · subst h207
    go_enter Tryd.func33, Tryd.ntmps33
    go_wp2_with fail
    go_ret
    exact ⟨rfl, rfl⟩
  have b207 : (n == 207) = false := beq_eq_false_iff_ne.2 h207
  by_cases h301 : n = 301
  · subst h301
    go_enter Tryd.func33, Tryd.ntmps33
    go_wp2_with fail
    go_ret
    exact ⟨rfl, rfl⟩
  have b301 : (n == 301) = false := beq_eq_false_iff_ne.2 h301
  by_cases h302 : n = 302
  · subst h302
    go_enter Tryd.func33, Tryd.ntmps33
    go_wp2_with fail
    go_ret
    exact ⟨rfl, rfl⟩
  have b302 : (n == 302) = false := beq_eq_false_iff_ne.2 h302
  have hF : Hid (faultText n = ⟨#[]⟩) := by show faultText n = _; rw [faultText, if_neg h101, if_neg h103, if_neg h104, if_neg h106, if_neg h107, if_neg h108, if_neg h111, if_neg h114, if_neg h118, if_neg h119, if_neg h122, if_neg h124, if_neg h127, if_neg h201, if_neg h203, if_neg h205, if_neg h207, if_neg h301, if_neg h302]
  clear h101 h103 h104 h106 h107 h108 h111 h114 h118 h119 h122 h124 h127 h201 h203 h205 h207 h301 h302
  go_enter Tryd.func33, Tryd.ntmps33
  go_wp2_with fail
  go_ret
  exact ⟨ret_string hF.out.symm, rfl⟩
end Go.Proofs.YtgkgoofapgabhaaDoor
