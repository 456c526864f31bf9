/-
  A part of the proof: T1H.
-/
import Derived.Test.YtncjpbogjfibfaaGreatDoorT1D
import Derived.Test.YtncjpbogjfibfaaGreatDoorProg
set_option linter.unusedVariables false
set_option linter.unusedSimpArgs false
set_option maxRecDepth 100000
namespace Go.Ev.Pv
open Go.Proofs

def tys : List (Nat × Ty) := [(3, (.int .i64)), (5, (.int .u8)), (9, .str), (26, (.slice (.int .u8))), (27, (.arr 6 .str)), (32, (.map (.int .u8) (.int .i64))), (33, (.arr 6 (.map (.int .u8) (.int .i64)))), (35, (.arr 6 (.int .i64))), (37, (.slice (.agg (.prod .str (.prod (.slice .str) (.prod .str (.prod (.int .i64) (.prod .bool (.prod .str (.slice (.agg (.prod .str (.prod (.int .i64) (.prod (.slice (.agg (.prod (.int .i64) .str))) (.prod (.slice .str) (.slice .str)))))))))))))))), (38, (.slice (.int .i64))), (40, (.agg (.prod (.int .i64) (.prod (.slice (.agg (.prod .str (.prod (.slice .str) (.prod .str (.prod (.int .i64) (.prod .bool (.prod .str (.slice (.agg (.prod .str (.prod (.int .i64) (.prod (.slice (.agg (.prod (.int .i64) .str))) (.prod (.slice .str) (.slice .str))))))))))))))) (.slice (.int .i64)))))), (43, (.slice .str)), (44, (.slice (.agg (.prod .str (.prod (.int .i64) (.prod (.slice (.agg (.prod (.int .i64) .str))) (.prod (.slice .str) (.slice .str)))))))), (46, (.agg (.prod .str (.prod (.slice .str) (.prod .str (.prod (.int .i64) (.prod .bool (.prod .str (.slice (.agg (.prod .str (.prod (.int .i64) (.prod (.slice (.agg (.prod (.int .i64) .str))) (.prod (.slice .str) (.slice .str))))))))))))))), (53, (.arr 4 .str)), (54, (.arr 4 (.int .i64))), (55, (.arr 4 (.arr 4 (.int .i64)))), (58, (.slice (.agg (.prod (.int .i64) .str)))), (60, (.agg (.prod .str (.prod (.int .i64) (.prod (.slice (.agg (.prod (.int .i64) .str))) (.prod (.slice .str) (.slice .str))))))), (66, (.int .u64)), (79, (.int .u32)), (81, (.int .u64))]
theorem tys_ok : tysOK Tryz.prog tys = true := by kernel_rfl
def els : List (Nat × Nat) := [(26, 5), (37, 46), (38, 3), (43, 9), (44, 60), (58, 63)]
theorem els_ok : elsOK Tryz.prog els = true := by kernel_rfl
theorem mix : Tryz.prog.follows .mixedOrders = true := by kernel_rfl

def sp14 : FSpec := ⟨[.val (.int .i64), .val (.int .i64), .val (.int .i64)], [.val .bool], f14⟩

def fs14 : List (Nat × FSpec) := []

theorem fs14_ok : FsOK Tryz.prog fs14 := trivial

noncomputable def E14 : Env := ⟨lookN tys, lookN fs14, lookN [], (fun d => hasN d []), elOf Tryz.prog els⟩

theorem E14_ok : EnvOK Tryz.prog E14 := envOK_of tys_ok els_ok fs14_ok

noncomputable def b14 : Code := bodyOf Tryz.f14

theorem f14_ok : Enters Tryz.prog 14 ∧ FunOK Tryz.prog 14 sp14 :=
  fn_ok (fn := Tryz.f14) (c := b14) (l := []) E14_ok mix Tryz.func14 (by kernel_rfl) (by kernel_rfl) (by kernel_rfl) (by kernel_rfl) (by kernel_rfl) (by kernel_rfl) trivial (fun v => by kernel_rfl)

def sp9 : FSpec := ⟨[.val (.int .i64)], [.val (.int .i64), .val (.int .i64)], f9⟩

def fs9 : List (Nat × FSpec) := []

theorem fs9_ok : FsOK Tryz.prog fs9 := trivial

noncomputable def E9 : Env := ⟨lookN tys, lookN fs9, lookN [], (fun d => hasN d []), elOf Tryz.prog els⟩

theorem E9_ok : EnvOK Tryz.prog E9 := envOK_of tys_ok els_ok fs9_ok

noncomputable def b9 : Code := bodyOf Tryz.f9

theorem f9_ok : Enters Tryz.prog 9 ∧ FunOK Tryz.prog 9 sp9 :=
  fn_ok (fn := Tryz.f9) (c := b9) (l := []) E9_ok mix Tryz.func9 (by kernel_rfl) (by kernel_rfl) (by kernel_rfl) (by kernel_rfl) (by kernel_rfl) (by kernel_rfl) trivial (fun v => by kernel_rfl)

def sp10 : FSpec := ⟨[.val (.int .i64)], [.val (.int .i64), .val (.int .i64)], f10⟩

def fs10 : List (Nat × FSpec) := [(14, sp14)]

theorem fs10_ok : FsOK Tryz.prog fs10 := ⟨f14_ok, trivial⟩

noncomputable def E10 : Env := ⟨lookN tys, lookN fs10, lookN [], (fun d => hasN d []), elOf Tryz.prog els⟩

theorem E10_ok : EnvOK Tryz.prog E10 := envOK_of tys_ok els_ok fs10_ok

noncomputable def b10 : Code := bodyOf Tryz.f10

theorem f10_ok : Enters Tryz.prog 10 ∧ FunOK Tryz.prog 10 sp10 :=
  fn_ok (fn := Tryz.f10) (c := b10) (l := []) E10_ok mix Tryz.func10 (by kernel_rfl) (by kernel_rfl) (by kernel_rfl) (by kernel_rfl) (by kernel_rfl) (by kernel_rfl) trivial (fun v => by kernel_rfl)

def sp7 : FSpec := ⟨[.val (.slice (.int .u8)), .val (.int .u8)], [.val (.int .i64)], f7⟩

def fs7 : List (Nat × FSpec) := []

theorem fs7_ok : FsOK Tryz.prog fs7 := trivial

def c7_0 : CSpec := ⟨⟨[0, 1, 7, 8], [.val (.slice (.int .u8)), .val (.int .u8), .val (.int .i64), .val (.int .i64)]⟩, [((.exit 0), ⟨[], []⟩), (.ret, ⟨[4], [.val (.int .i64)]⟩)], [4, 5, 8, 9, 10, 11, 12, 13, 14, 15, 16, 17, 18], f7_l0⟩

noncomputable def E7 : Env := ⟨lookN tys, lookN fs7, lookN [(0, c7_0)], (fun d => hasN d []), elOf Tryz.prog els⟩

theorem E7_ok : EnvOK Tryz.prog E7 := envOK_of tys_ok els_ok fs7_ok

noncomputable def b7 : Code := bodyOf Tryz.f7

theorem c7_0_ok : CutOK Tryz.prog Tryz.f7.ntmps c7_0 (sub b7 [1, 0, 1, 0]) :=
  loop_ok (body := sub b7 [1, 0, 1, 0, 0]) (n := 1) (l := []) E7_ok mix (by kernel_rfl) (by kernel_rfl) trivial (fun next v => by kernel_rfl) fuel

theorem f7_ok : Enters Tryz.prog 7 ∧ FunOK Tryz.prog 7 sp7 :=
  fn_ok (fn := Tryz.f7) (c := b7) (l := [(c7_0, sub b7 [1, 0, 1, 0])]) E7_ok mix Tryz.func7 (by kernel_rfl) (by kernel_rfl) (by kernel_rfl) (by kernel_rfl) (by kernel_rfl) (by kernel_rfl) ⟨⟨by kernel_rfl, c7_0_ok⟩, trivial⟩ (fun v => by kernel_rfl)

def sp11 : FSpec := ⟨[], [.val (.arr 6 (.map (.int .u8) (.int .i64)))], f11⟩

def fs11 : List (Nat × FSpec) := []

theorem fs11_ok : FsOK Tryz.prog fs11 := trivial

noncomputable def E11 : Env := ⟨lookN tys, lookN fs11, lookN [], (fun d => hasN d []), elOf Tryz.prog els⟩

theorem E11_ok : EnvOK Tryz.prog E11 := envOK_of tys_ok els_ok fs11_ok

noncomputable def b11 : Code := bodyOf Tryz.f11

theorem f11_ok : Enters Tryz.prog 11 ∧ FunOK Tryz.prog 11 sp11 :=
  fn_ok (fn := Tryz.f11) (c := b11) (l := []) E11_ok mix Tryz.func11 (by kernel_rfl) (by kernel_rfl) (by kernel_rfl) (by kernel_rfl) (by kernel_rfl) (by kernel_rfl) trivial (fun v => by kernel_rfl)

def sp5 : FSpec := ⟨[.val .str], [.val (.int .i64), .val (.int .i64)], f5⟩

def fs5 : List (Nat × FSpec) := [(11, sp11)]

theorem fs5_ok : FsOK Tryz.prog fs5 := ⟨f11_ok, trivial⟩

def c5_1 : CSpec := ⟨⟨[0, 5, 16, 17], [.val .str, .box (.val (.arr 6 (.int .i64))), .val (.arr 6 (.map (.int .u8) (.int .i64))), .val (.int .i64)]⟩, [((.exit 0), ⟨[5], [.box (.val (.arr 6 (.int .i64)))]⟩), (.ret, ⟨[2, 3], [.val (.int .i64), .val (.int .i64)]⟩)], [2, 3, 6, 7, 8, 9, 17, 18, 19, 20, 21, 22, 23, 24, 25, 26, 27, 28, 29, 30, 31, 32, 33, 34], f5_l1⟩

noncomputable def E5 : Env := ⟨lookN tys, lookN fs5, lookN [(1, c5_1)], (fun d => hasN d []), elOf Tryz.prog els⟩

theorem E5_ok : EnvOK Tryz.prog E5 := envOK_of tys_ok els_ok fs5_ok

noncomputable def b5 : Code := bodyOf Tryz.f5

theorem c5_1_ok : CutOK Tryz.prog Tryz.f5.ntmps c5_1 (sub b5 [1, 1, 1, 1, 0, 1, 0]) :=
  loop_ok (body := sub b5 [1, 1, 1, 1, 0, 1, 0, 0]) (n := 2) (l := []) E5_ok mix (by kernel_rfl) (by kernel_rfl) trivial (fun next v => by kernel_rfl) fuel

theorem f5_ok : Enters Tryz.prog 5 ∧ FunOK Tryz.prog 5 sp5 :=
  fn_ok (fn := Tryz.f5) (c := b5) (l := [(c5_1, sub b5 [1, 1, 1, 1, 0, 1, 0])]) E5_ok mix Tryz.func5 (by kernel_rfl) (by kernel_rfl) (by kernel_rfl) (by kernel_rfl) (by kernel_rfl) (by kernel_rfl) ⟨⟨by kernel_rfl, c5_1_ok⟩, trivial⟩ (fun v => by kernel_rfl)

def sp13 : FSpec := ⟨[.val (.int .i64), .val (.int .u8)], [.val (.int .i64)], f13⟩

def fs13 : List (Nat × FSpec) := []

theorem fs13_ok : FsOK Tryz.prog fs13 := trivial

def c13_0 : CSpec := ⟨⟨[1, 5, 6, 7, 8], [.val (.int .u8), .box (.val (.arr 4 .str)), .box (.val (.arr 4 (.arr 4 (.int .i64)))), .val (.int .i64), .val (.int .i64)]⟩, [((.exit 0), ⟨[], []⟩), (.ret, ⟨[4], [.val (.int .i64)]⟩)], [4, 8, 17, 18, 19, 20, 21, 22, 23, 24, 25, 26, 27, 28, 29, 30, 31, 32, 33, 34, 35, 36], f13_l0⟩

noncomputable def E13 : Env := ⟨lookN tys, lookN fs13, lookN [(0, c13_0)], (fun d => hasN d []), elOf Tryz.prog els⟩

theorem E13_ok : EnvOK Tryz.prog E13 := envOK_of tys_ok els_ok fs13_ok

noncomputable def b13 : Code := bodyOf Tryz.f13

theorem c13_0_ok : CutOK Tryz.prog Tryz.f13.ntmps c13_0 (sub b13 [1, 1, 1, 1, 0, 1, 0]) :=
  loop_ok (body := sub b13 [1, 1, 1, 1, 0, 1, 0, 0]) (n := 1) (l := []) E13_ok mix (by kernel_rfl) (by kernel_rfl) trivial (fun next v => by kernel_rfl) fuel

theorem f13_ok : Enters Tryz.prog 13 ∧ FunOK Tryz.prog 13 sp13 :=
  fn_ok (fn := Tryz.f13) (c := b13) (l := [(c13_0, sub b13 [1, 1, 1, 1, 0, 1, 0])]) E13_ok mix Tryz.func13 (by kernel_rfl) (by kernel_rfl) (by kernel_rfl) (by kernel_rfl) (by kernel_rfl) (by kernel_rfl) ⟨⟨by kernel_rfl, c13_0_ok⟩, trivial⟩ (fun v => by kernel_rfl)

def sp8 : FSpec := ⟨[.val .str], [.val (.int .i64), .val (.int .i64)], f8⟩

def fs8 : List (Nat × FSpec) := [(13, sp13)]

theorem fs8_ok : FsOK Tryz.prog fs8 := ⟨f13_ok, trivial⟩

def c8_1 : CSpec := ⟨⟨[0, 4, 5, 6], [.val .str, .val (.int .i64), .val (.int .i64), .val (.int .i64)]⟩, [((.exit 0), ⟨[4, 5], [.val (.int .i64), .val (.int .i64)]⟩), (.ret, ⟨[2, 3], [.val (.int .i64), .val (.int .i64)]⟩)], [2, 3, 4, 5, 6, 7, 13, 14, 15, 16, 17, 18, 19, 20, 21, 22, 23, 24, 25, 26, 27, 28, 29, 30, 31, 32], f8_l1⟩

noncomputable def E8 : Env := ⟨lookN tys, lookN fs8, lookN [(1, c8_1)], (fun d => hasN d []), elOf Tryz.prog els⟩

theorem E8_ok : EnvOK Tryz.prog E8 := envOK_of tys_ok els_ok fs8_ok

noncomputable def b8 : Code := bodyOf Tryz.f8

theorem c8_1_ok : CutOK Tryz.prog Tryz.f8.ntmps c8_1 (sub b8 [1, 1, 1, 0, 1, 0]) :=
  loop_ok (body := sub b8 [1, 1, 1, 0, 1, 0, 0]) (n := 2) (l := []) E8_ok mix (by kernel_rfl) (by kernel_rfl) trivial (fun next v => by kernel_rfl) fuel

theorem f8_ok : Enters Tryz.prog 8 ∧ FunOK Tryz.prog 8 sp8 :=
  fn_ok (fn := Tryz.f8) (c := b8) (l := [(c8_1, sub b8 [1, 1, 1, 0, 1, 0])]) E8_ok mix Tryz.func8 (by kernel_rfl) (by kernel_rfl) (by kernel_rfl) (by kernel_rfl) (by kernel_rfl) (by kernel_rfl) ⟨⟨by kernel_rfl, c8_1_ok⟩, trivial⟩ (fun v => by kernel_rfl)

def sp20n : FSpec := ⟨[.nilS], [.val (.slice .str)], f20n⟩

def fs20n : List (Nat × FSpec) := []

theorem fs20n_ok : FsOK Tryz.prog fs20n := trivial

noncomputable def E20n : Env := ⟨lookN tys, lookN fs20n, lookN [], (fun d => hasN d []), elOf Tryz.prog els⟩

theorem E20n_ok : EnvOK Tryz.prog E20n := envOK_of tys_ok els_ok fs20n_ok

noncomputable def b20n : Code := bodyOf Tryz.f20

theorem f20n_ok : Enters Tryz.prog 20 ∧ FunOK Tryz.prog 20 sp20n :=
  fn_ok (fn := Tryz.f20) (c := b20n) (l := []) E20n_ok mix Tryz.func20 (by kernel_rfl) (by kernel_rfl) (by kernel_rfl) (by kernel_rfl) (by kernel_rfl) (by kernel_rfl) trivial (fun v => by kernel_rfl)

def sp20s : FSpec := ⟨[.nns .str], [.val (.slice .str)], f20s⟩

def fs20s : List (Nat × FSpec) := []

theorem fs20s_ok : FsOK Tryz.prog fs20s := trivial

noncomputable def E20s : Env := ⟨lookN tys, lookN fs20s, lookN [], (fun d => hasN d []), elOf Tryz.prog els⟩

theorem E20s_ok : EnvOK Tryz.prog E20s := envOK_of tys_ok els_ok fs20s_ok

noncomputable def b20s : Code := bodyOf Tryz.f20

theorem f20s_ok : Enters Tryz.prog 20 ∧ FunOK Tryz.prog 20 sp20s :=
  fn_ok (fn := Tryz.f20) (c := b20s) (l := []) E20s_ok mix Tryz.func20 (by kernel_rfl) (by kernel_rfl) (by kernel_rfl) (by kernel_rfl) (by kernel_rfl) (by kernel_rfl) trivial (fun v => by kernel_rfl)

def sp20 : FSpec := ⟨[.val (.slice .str)], [.val (.slice .str)], f20⟩

theorem f20_ok : Enters Tryz.prog 20 ∧ FunOK Tryz.prog 20 sp20 := nil_split f20n_ok f20s_ok (by kernel_rfl) (fun _ => rfl)

def sp21n : FSpec := ⟨[.nilS], [.val (.slice (.agg (.prod (.int .i64) .str)))], f21n⟩

def fs21n : List (Nat × FSpec) := []

theorem fs21n_ok : FsOK Tryz.prog fs21n := trivial

noncomputable def E21n : Env := ⟨lookN tys, lookN fs21n, lookN [], (fun d => hasN d []), elOf Tryz.prog els⟩

theorem E21n_ok : EnvOK Tryz.prog E21n := envOK_of tys_ok els_ok fs21n_ok

noncomputable def b21n : Code := bodyOf Tryz.f21

theorem f21n_ok : Enters Tryz.prog 21 ∧ FunOK Tryz.prog 21 sp21n :=
  fn_ok (fn := Tryz.f21) (c := b21n) (l := []) E21n_ok mix Tryz.func21 (by kernel_rfl) (by kernel_rfl) (by kernel_rfl) (by kernel_rfl) (by kernel_rfl) (by kernel_rfl) trivial (fun v => by kernel_rfl)

def sp21s : FSpec := ⟨[.nns (.agg (.prod (.int .i64) .str))], [.val (.slice (.agg (.prod (.int .i64) .str)))], f21s⟩

def fs21s : List (Nat × FSpec) := []

theorem fs21s_ok : FsOK Tryz.prog fs21s := trivial

noncomputable def E21s : Env := ⟨lookN tys, lookN fs21s, lookN [], (fun d => hasN d []), elOf Tryz.prog els⟩

theorem E21s_ok : EnvOK Tryz.prog E21s := envOK_of tys_ok els_ok fs21s_ok

noncomputable def b21s : Code := bodyOf Tryz.f21

theorem f21s_ok : Enters Tryz.prog 21 ∧ FunOK Tryz.prog 21 sp21s :=
  fn_ok (fn := Tryz.f21) (c := b21s) (l := []) E21s_ok mix Tryz.func21 (by kernel_rfl) (by kernel_rfl) (by kernel_rfl) (by kernel_rfl) (by kernel_rfl) (by kernel_rfl) trivial (fun v => by kernel_rfl)

def sp21 : FSpec := ⟨[.val (.slice (.agg (.prod (.int .i64) .str)))], [.val (.slice (.agg (.prod (.int .i64) .str)))], f21⟩

theorem f21_ok : Enters Tryz.prog 21 ∧ FunOK Tryz.prog 21 sp21 := nil_split f21n_ok f21s_ok (by kernel_rfl) (fun _ => rfl)

def sp16 : FSpec := ⟨[.val (.agg (.prod .str (.prod (.slice .str) (.prod .str (.prod (.int .i64) (.prod .bool (.prod .str (.slice (.agg (.prod .str (.prod (.int .i64) (.prod (.slice (.agg (.prod (.int .i64) .str))) (.prod (.slice .str) (.slice .str))))))))))))))], [.val (.agg (.prod .str (.prod (.slice .str) (.prod .str (.prod (.int .i64) (.prod .bool (.prod .str (.slice (.agg (.prod .str (.prod (.int .i64) (.prod (.slice (.agg (.prod (.int .i64) .str))) (.prod (.slice .str) (.slice .str))))))))))))))], f16⟩

def fs16 : List (Nat × FSpec) := [(20, sp20), (21, sp21)]

theorem fs16_ok : FsOK Tryz.prog fs16 := ⟨f20_ok, f21_ok, trivial⟩

def c16_0 : CSpec := ⟨⟨[3, 11, 12, 13], [.own 60 (.agg (.prod .str (.prod (.int .i64) (.prod (.slice (.agg (.prod (.int .i64) .str))) (.prod (.slice .str) (.slice .str)))))) false, .val (.slice (.agg (.prod .str (.prod (.int .i64) (.prod (.slice (.agg (.prod (.int .i64) .str))) (.prod (.slice .str) (.slice .str))))))), .val (.int .i64), .val (.int .i64)]⟩, [((.exit 0), ⟨[3], [.own 60 (.agg (.prod .str (.prod (.int .i64) (.prod (.slice (.agg (.prod (.int .i64) .str))) (.prod (.slice .str) (.slice .str)))))) false]⟩)], [3, 5, 13, 14, 15, 16, 17, 18, 19, 20, 21, 22, 23, 24, 25, 26, 27, 28, 29, 30, 31, 32, 33], f16_l0⟩

noncomputable def E16 : Env := ⟨lookN tys, lookN fs16, lookN [(0, c16_0)], (fun d => hasN d []), elOf Tryz.prog els⟩

theorem E16_ok : EnvOK Tryz.prog E16 := envOK_of tys_ok els_ok fs16_ok

noncomputable def b16 : Code := bodyOf Tryz.f16

theorem c16_0_ok : CutOK Tryz.prog Tryz.f16.ntmps c16_0 (sub b16 [1, 1, 1, 0, 1, 0]) :=
  loop_ok (body := sub b16 [1, 1, 1, 0, 1, 0, 0]) (n := 1) (l := []) E16_ok mix (by kernel_rfl) (by kernel_rfl) trivial (fun next v => by kernel_rfl) fuel

theorem f16_ok : Enters Tryz.prog 16 ∧ FunOK Tryz.prog 16 sp16 :=
  fn_ok (fn := Tryz.f16) (c := b16) (l := [(c16_0, sub b16 [1, 1, 1, 0, 1, 0])]) E16_ok mix Tryz.func16 (by kernel_rfl) (by kernel_rfl) (by kernel_rfl) (by kernel_rfl) (by kernel_rfl) (by kernel_rfl) ⟨⟨by kernel_rfl, c16_0_ok⟩, trivial⟩ (fun v => by kernel_rfl)

def sp36 : FSpec := ⟨[.val .str], [.val .bool], f36⟩

def fs36 : List (Nat × FSpec) := []

theorem fs36_ok : FsOK Tryz.prog fs36 := trivial

noncomputable def E36 : Env := ⟨lookN tys, lookN fs36, lookN [], (fun d => hasN d []), elOf Tryz.prog els⟩

theorem E36_ok : EnvOK Tryz.prog E36 := envOK_of tys_ok els_ok fs36_ok

noncomputable def b36 : Code := bodyOf Tryz.f36

theorem f36_ok : Enters Tryz.prog 36 ∧ FunOK Tryz.prog 36 sp36 :=
  fn_ok (fn := Tryz.f36) (c := b36) (l := []) E36_ok mix Tryz.func36 (by kernel_rfl) (by kernel_rfl) (by kernel_rfl) (by kernel_rfl) (by kernel_rfl) (by kernel_rfl) trivial (fun v => by kernel_rfl)

def sp24 : FSpec := ⟨[.val .str, .val .str], [.val (.int .i64)], f24⟩

def fs24 : List (Nat × FSpec) := [(36, sp36)]

theorem fs24_ok : FsOK Tryz.prog fs24 := ⟨f36_ok, trivial⟩

noncomputable def E24 : Env := ⟨lookN tys, lookN fs24, lookN [], (fun d => hasN d []), elOf Tryz.prog els⟩

theorem E24_ok : EnvOK Tryz.prog E24 := envOK_of tys_ok els_ok fs24_ok

noncomputable def b24 : Code := bodyOf Tryz.f24

theorem f24_ok : Enters Tryz.prog 24 ∧ FunOK Tryz.prog 24 sp24 :=
  fn_ok (fn := Tryz.f24) (c := b24) (l := []) E24_ok mix Tryz.func24 (by kernel_rfl) (by kernel_rfl) (by kernel_rfl) (by kernel_rfl) (by kernel_rfl) (by kernel_rfl) trivial (fun v => by kernel_rfl)

def sp18 : FSpec := ⟨[.val (.agg (.prod .str (.prod (.slice .str) (.prod .str (.prod (.int .i64) (.prod .bool (.prod .str (.slice (.agg (.prod .str (.prod (.int .i64) (.prod (.slice (.agg (.prod (.int .i64) .str))) (.prod (.slice .str) (.slice .str)))))))))))))), .val (.agg (.prod .str (.prod (.slice .str) (.prod .str (.prod (.int .i64) (.prod .bool (.prod .str (.slice (.agg (.prod .str (.prod (.int .i64) (.prod (.slice (.agg (.prod (.int .i64) .str))) (.prod (.slice .str) (.slice .str))))))))))))))], [.val (.int .i64)], f18⟩

def fs18 : List (Nat × FSpec) := [(24, sp24)]

theorem fs18_ok : FsOK Tryz.prog fs18 := ⟨f24_ok, trivial⟩

noncomputable def E18 : Env := ⟨lookN tys, lookN fs18, lookN [], (fun d => hasN d []), elOf Tryz.prog els⟩

theorem E18_ok : EnvOK Tryz.prog E18 := envOK_of tys_ok els_ok fs18_ok

noncomputable def b18 : Code := bodyOf Tryz.f18

theorem f18_ok : Enters Tryz.prog 18 ∧ FunOK Tryz.prog 18 sp18 :=
  fn_ok (fn := Tryz.f18) (c := b18) (l := []) E18_ok mix Tryz.func18 (by kernel_rfl) (by kernel_rfl) (by kernel_rfl) (by kernel_rfl) (by kernel_rfl) (by kernel_rfl) trivial (fun v => by kernel_rfl)

def sp37 : FSpec := ⟨[.val .str], [.val .bool], f37⟩

def fs37 : List (Nat × FSpec) := []

theorem fs37_ok : FsOK Tryz.prog fs37 := trivial

def c37_0 : CSpec := ⟨⟨[0, 6, 7], [.val .str, .val (.int .i64), .val (.int .i64)]⟩, [((.exit 0), ⟨[], []⟩), (.ret, ⟨[2], [.val .bool]⟩)], [2, 3, 4, 7, 8, 9, 10, 11, 12, 13, 14, 15, 16, 17, 18, 19, 20, 21, 22, 23, 24, 25, 26, 27, 28, 29, 30, 31, 32, 33, 34, 35, 36, 37, 38, 39, 40, 41, 42, 43, 44, 45, 46, 47, 48], f37_l0⟩

noncomputable def E37 : Env := ⟨lookN tys, lookN fs37, lookN [(0, c37_0)], (fun d => hasN d []), elOf Tryz.prog els⟩

theorem E37_ok : EnvOK Tryz.prog E37 := envOK_of tys_ok els_ok fs37_ok

noncomputable def b37 : Code := bodyOf Tryz.f37

theorem c37_0_ok : CutOK Tryz.prog Tryz.f37.ntmps c37_0 (sub b37 [1, 0, 1, 0]) :=
  loop_ok (body := sub b37 [1, 0, 1, 0, 0]) (n := 1) (l := []) E37_ok mix (by kernel_rfl) (by kernel_rfl) trivial (fun next v => by kernel_rfl) fuel

theorem f37_ok : Enters Tryz.prog 37 ∧ FunOK Tryz.prog 37 sp37 :=
  fn_ok (fn := Tryz.f37) (c := b37) (l := [(c37_0, sub b37 [1, 0, 1, 0])]) E37_ok mix Tryz.func37 (by kernel_rfl) (by kernel_rfl) (by kernel_rfl) (by kernel_rfl) (by kernel_rfl) (by kernel_rfl) ⟨⟨by kernel_rfl, c37_0_ok⟩, trivial⟩ (fun v => by kernel_rfl)

def sp38 : FSpec := ⟨[.val (.agg (.prod .str (.prod (.slice .str) (.prod .str (.prod (.int .i64) (.prod .bool (.prod .str (.slice (.agg (.prod .str (.prod (.int .i64) (.prod (.slice (.agg (.prod (.int .i64) .str))) (.prod (.slice .str) (.slice .str))))))))))))))], [.val (.int .i64)], f38⟩

def fs38 : List (Nat × FSpec) := [(37, sp37)]

theorem fs38_ok : FsOK Tryz.prog fs38 := ⟨f37_ok, trivial⟩

def c38_1 : CSpec := ⟨⟨[1, 10, 11, 12], [.box (.val (.prod .str (.prod (.slice .str) (.prod .str (.prod (.int .i64) (.prod .bool (.prod .str (.slice (.agg (.prod .str (.prod (.int .i64) (.prod (.slice (.agg (.prod (.int .i64) .str))) (.prod (.slice .str) (.slice .str)))))))))))))), .val (.slice .str), .val (.int .i64), .val (.int .i64)]⟩, [((.exit 0), ⟨[], []⟩), (.ret, ⟨[2], [.val (.int .i64)]⟩)], [2, 3, 4, 12, 13, 14, 15, 16, 17, 18, 19, 20, 21, 22, 23, 24, 25, 26, 27, 28, 29, 30, 31, 32, 33, 34, 35, 36, 37, 38, 39], f38_l1⟩

noncomputable def E38 : Env := ⟨lookN tys, lookN fs38, lookN [(1, c38_1)], (fun d => hasN d []), elOf Tryz.prog els⟩

theorem E38_ok : EnvOK Tryz.prog E38 := envOK_of tys_ok els_ok fs38_ok

noncomputable def b38 : Code := bodyOf Tryz.f38

theorem c38_1_ok : CutOK Tryz.prog Tryz.f38.ntmps c38_1 (sub b38 [1, 1, 0, 1, 0]) :=
  loop_ok (body := sub b38 [1, 1, 0, 1, 0, 0]) (n := 2) (l := []) E38_ok mix (by kernel_rfl) (by kernel_rfl) trivial (fun next v => by kernel_rfl) fuel

theorem f38_ok : Enters Tryz.prog 38 ∧ FunOK Tryz.prog 38 sp38 :=
  fn_ok (fn := Tryz.f38) (c := b38) (l := [(c38_1, sub b38 [1, 1, 0, 1, 0])]) E38_ok mix Tryz.func38 (by kernel_rfl) (by kernel_rfl) (by kernel_rfl) (by kernel_rfl) (by kernel_rfl) (by kernel_rfl) ⟨⟨by kernel_rfl, c38_1_ok⟩, trivial⟩ (fun v => by kernel_rfl)

def sp25 : FSpec := ⟨[.val (.agg (.prod .str (.prod (.slice .str) (.prod .str (.prod (.int .i64) (.prod .bool (.prod .str (.slice (.agg (.prod .str (.prod (.int .i64) (.prod (.slice (.agg (.prod (.int .i64) .str))) (.prod (.slice .str) (.slice .str))))))))))))))], [.val (.slice (.agg (.prod (.int .i64) (.slice (.agg (.prod (.agg (.prod .bool (.prod .bool .str))) (.agg (.prod .bool (.prod .bool .str))))))))), .val (.int .i64)], f25⟩

def fs25 : List (Nat × FSpec) := [(5, sp5), (37, sp37), (38, sp38)]

theorem fs25_ok : FsOK Tryz.prog fs25 := ⟨f5_ok, f37_ok, f38_ok, trivial⟩

def c25_4 : CSpec := ⟨⟨[1, 37], [.box (.val (.prod .str (.prod (.slice .str) (.prod .str (.prod (.int .i64) (.prod .bool (.prod .str (.slice (.agg (.prod .str (.prod (.int .i64) (.prod (.slice (.agg (.prod (.int .i64) .str))) (.prod (.slice .str) (.slice .str)))))))))))))), .val .bool]⟩, [(.normal, ⟨[1], [.box (.val (.prod .str (.prod (.slice .str) (.prod .str (.prod (.int .i64) (.prod .bool (.prod .str (.slice (.agg (.prod .str (.prod (.int .i64) (.prod (.slice (.agg (.prod (.int .i64) .str))) (.prod (.slice .str) (.slice .str))))))))))))))]⟩), (.ret, ⟨[2, 3], [.val (.slice (.agg (.prod (.int .i64) (.slice (.agg (.prod (.agg (.prod .bool (.prod .bool .str))) (.agg (.prod .bool (.prod .bool .str))))))))), .val (.int .i64)]⟩)], [2, 3, 5, 6, 38, 39, 40, 41, 42, 43, 44, 45, 46], f25_p4⟩

def c25_7 : CSpec := ⟨⟨[7, 52, 53, 54], [.own 85 (.agg (.prod (.int .i64) (.slice (.agg (.prod (.agg (.prod .bool (.prod .bool .str))) (.agg (.prod .bool (.prod .bool .str)))))))) false, .val (.slice (.agg (.prod .str (.prod (.int .i64) (.prod (.slice (.agg (.prod (.int .i64) .str))) (.prod (.slice .str) (.slice .str))))))), .val (.int .i64), .val (.int .i64)]⟩, [((.exit 1), ⟨[7], [.own 85 (.agg (.prod (.int .i64) (.slice (.agg (.prod (.agg (.prod .bool (.prod .bool .str))) (.agg (.prod .bool (.prod .bool .str)))))))) false]⟩)], [2, 3, 7, 9, 10, 11, 54, 55, 56, 57, 58, 59, 60, 61, 62, 63, 64, 65, 66, 67, 68, 69, 70], f25_l7⟩

noncomputable def E25 : Env := ⟨lookN tys, lookN fs25, lookN [(4, c25_4), (7, c25_7)], (fun d => hasN d []), elOf Tryz.prog els⟩

theorem E25_ok : EnvOK Tryz.prog E25 := envOK_of tys_ok els_ok fs25_ok

noncomputable def b25 : Code := bodyOf Tryz.f25

theorem c25_4_ok : CutOK Tryz.prog Tryz.f25.ntmps c25_4 (sub b25 [1, 1, 1, 1, 0, 1]) :=
  branch_ok (c := condOf (sub b25 [1, 1, 1, 1, 0, 1])) (x := sub b25 [1, 1, 1, 1, 0, 1, 0]) (y := sub b25 [1, 1, 1, 1, 0, 1, 1]) (n := 4) (lx := []) (ly := []) E25_ok mix (by kernel_rfl) (by kernel_rfl) (by kernel_rfl) trivial trivial (fun v => by kernel_rfl)

theorem c25_7_ok : CutOK Tryz.prog Tryz.f25.ntmps c25_7 (sub b25 [1, 1, 1, 1, 1, 1, 1, 0, 1, 0]) :=
  loop_ok (body := sub b25 [1, 1, 1, 1, 1, 1, 1, 0, 1, 0, 0]) (n := 8) (l := []) E25_ok mix (by kernel_rfl) (by kernel_rfl) trivial (fun next v => by kernel_rfl) fuel

theorem f25_ok : Enters Tryz.prog 25 ∧ FunOK Tryz.prog 25 sp25 :=
  fn_ok (fn := Tryz.f25) (c := b25) (l := [(c25_4, sub b25 [1, 1, 1, 1, 0, 1]), (c25_7, sub b25 [1, 1, 1, 1, 1, 1, 1, 0, 1, 0])]) E25_ok mix Tryz.func25 (by kernel_rfl) (by kernel_rfl) (by kernel_rfl) (by kernel_rfl) (by kernel_rfl) (by kernel_rfl) ⟨⟨by kernel_rfl, c25_4_ok⟩, ⟨by kernel_rfl, c25_7_ok⟩, trivial⟩ (fun v => by kernel_rfl)

def sp19 : FSpec := ⟨[.val (.agg (.prod .str (.prod (.slice .str) (.prod .str (.prod (.int .i64) (.prod .bool (.prod .str (.slice (.agg (.prod .str (.prod (.int .i64) (.prod (.slice (.agg (.prod (.int .i64) .str))) (.prod (.slice .str) (.slice .str))))))))))))))], [.val (.int .i64)], f19⟩

def fs19 : List (Nat × FSpec) := [(25, sp25)]

theorem fs19_ok : FsOK Tryz.prog fs19 := ⟨f25_ok, trivial⟩

noncomputable def E19 : Env := ⟨lookN tys, lookN fs19, lookN [], (fun d => hasN d []), elOf Tryz.prog els⟩

theorem E19_ok : EnvOK Tryz.prog E19 := envOK_of tys_ok els_ok fs19_ok

noncomputable def b19 : Code := bodyOf Tryz.f19

theorem f19_ok : Enters Tryz.prog 19 ∧ FunOK Tryz.prog 19 sp19 :=
  fn_ok (fn := Tryz.f19) (c := b19) (l := []) E19_ok mix Tryz.func19 (by kernel_rfl) (by kernel_rfl) (by kernel_rfl) (by kernel_rfl) (by kernel_rfl) (by kernel_rfl) trivial (fun v => by kernel_rfl)

def sp15 : FSpec := ⟨[.val (.slice (.agg (.prod .str (.prod (.slice .str) (.prod .str (.prod (.int .i64) (.prod .bool (.prod .str (.slice (.agg (.prod .str (.prod (.int .i64) (.prod (.slice (.agg (.prod (.int .i64) .str))) (.prod (.slice .str) (.slice .str)))))))))))))))], [.val (.int .i64)], f15⟩

def fs15 : List (Nat × FSpec) := [(19, sp19)]

theorem fs15_ok : FsOK Tryz.prog fs15 := ⟨f19_ok, trivial⟩

def c15_1 : CSpec := ⟨⟨[9, 10, 11], [.val (.slice (.agg (.prod .str (.prod (.slice .str) (.prod .str (.prod (.int .i64) (.prod .bool (.prod .str (.slice (.agg (.prod .str (.prod (.int .i64) (.prod (.slice (.agg (.prod (.int .i64) .str))) (.prod (.slice .str) (.slice .str))))))))))))))), .val (.int .i64), .val (.int .i64)]⟩, [((.exit 0), ⟨[], []⟩), (.ret, ⟨[2], [.val (.int .i64)]⟩)], [2, 4, 5, 11, 12, 13, 14, 15, 16, 17, 18, 19, 20], f15_l1⟩

noncomputable def E15 : Env := ⟨lookN tys, lookN fs15, lookN [(1, c15_1)], (fun d => hasN d []), elOf Tryz.prog els⟩

theorem E15_ok : EnvOK Tryz.prog E15 := envOK_of tys_ok els_ok fs15_ok

noncomputable def b15 : Code := bodyOf Tryz.f15

theorem c15_1_ok : CutOK Tryz.prog Tryz.f15.ntmps c15_1 (sub b15 [1, 1, 0, 1, 0]) :=
  loop_ok (body := sub b15 [1, 1, 0, 1, 0, 0]) (n := 2) (l := []) E15_ok mix (by kernel_rfl) (by kernel_rfl) trivial (fun next v => by kernel_rfl) fuel

theorem f15_ok : Enters Tryz.prog 15 ∧ FunOK Tryz.prog 15 sp15 :=
  fn_ok (fn := Tryz.f15) (c := b15) (l := [(c15_1, sub b15 [1, 1, 0, 1, 0])]) E15_ok mix Tryz.func15 (by kernel_rfl) (by kernel_rfl) (by kernel_rfl) (by kernel_rfl) (by kernel_rfl) (by kernel_rfl) ⟨⟨by kernel_rfl, c15_1_ok⟩, trivial⟩ (fun v => by kernel_rfl)

def sp35 : FSpec := ⟨[.val (.int .u64)], [.val (.int .i64)], f35⟩

def fs35 : List (Nat × FSpec) := []

theorem fs35_ok : FsOK Tryz.prog fs35 := trivial

def c35_0 : CSpec := ⟨⟨[0, 2, 4], [.val (.int .u64), .val (.int .i64), .val .bool]⟩, [(.normal, ⟨[0, 2], [.val (.int .u64), .val (.int .i64)]⟩)], [0, 2, 5, 6], f35_p0⟩

def c35_1 : CSpec := ⟨⟨[0, 2, 8], [.val (.int .u64), .val (.int .i64), .val .bool]⟩, [(.normal, ⟨[0, 2], [.val (.int .u64), .val (.int .i64)]⟩)], [0, 2, 9, 10, 11, 12], f35_p1⟩

noncomputable def E35 : Env := ⟨lookN tys, lookN fs35, lookN [(0, c35_0), (1, c35_1)], (fun d => hasN d []), elOf Tryz.prog els⟩

theorem E35_ok : EnvOK Tryz.prog E35 := envOK_of tys_ok els_ok fs35_ok

noncomputable def b35 : Code := bodyOf Tryz.f35

theorem c35_0_ok : CutOK Tryz.prog Tryz.f35.ntmps c35_0 (sub b35 [1, 0, 1]) :=
  branch_ok (c := condOf (sub b35 [1, 0, 1])) (x := sub b35 [1, 0, 1, 0]) (y := sub b35 [1, 0, 1, 1]) (n := 0) (lx := []) (ly := []) E35_ok mix (by kernel_rfl) (by kernel_rfl) (by kernel_rfl) trivial trivial (fun v => by kernel_rfl)

theorem c35_1_ok : CutOK Tryz.prog Tryz.f35.ntmps c35_1 (sub b35 [1, 1, 0, 1]) :=
  branch_ok (c := condOf (sub b35 [1, 1, 0, 1])) (x := sub b35 [1, 1, 0, 1, 0]) (y := sub b35 [1, 1, 0, 1, 1]) (n := 1) (lx := []) (ly := []) E35_ok mix (by kernel_rfl) (by kernel_rfl) (by kernel_rfl) trivial trivial (fun v => by kernel_rfl)

theorem f35_ok : Enters Tryz.prog 35 ∧ FunOK Tryz.prog 35 sp35 :=
  fn_ok (fn := Tryz.f35) (c := b35) (l := [(c35_0, sub b35 [1, 0, 1]), (c35_1, sub b35 [1, 1, 0, 1])]) E35_ok mix Tryz.func35 (by kernel_rfl) (by kernel_rfl) (by kernel_rfl) (by kernel_rfl) (by kernel_rfl) (by kernel_rfl) ⟨⟨by kernel_rfl, c35_0_ok⟩, ⟨by kernel_rfl, c35_1_ok⟩, trivial⟩ (fun v => by kernel_rfl)

def sp34 : FSpec := ⟨[.val (.int .u32)], [.val (.int .i64)], f34⟩

def fs34 : List (Nat × FSpec) := []

theorem fs34_ok : FsOK Tryz.prog fs34 := trivial

def c34_0 : CSpec := ⟨⟨[0, 2, 4], [.val (.int .u32), .val (.int .i64), .val .bool]⟩, [(.normal, ⟨[0, 2], [.val (.int .u32), .val (.int .i64)]⟩)], [0, 2, 5, 6], f34_p0⟩

noncomputable def E34 : Env := ⟨lookN tys, lookN fs34, lookN [(0, c34_0)], (fun d => hasN d []), elOf Tryz.prog els⟩

theorem E34_ok : EnvOK Tryz.prog E34 := envOK_of tys_ok els_ok fs34_ok

noncomputable def b34 : Code := bodyOf Tryz.f34

theorem c34_0_ok : CutOK Tryz.prog Tryz.f34.ntmps c34_0 (sub b34 [1, 0, 1]) :=
  branch_ok (c := condOf (sub b34 [1, 0, 1])) (x := sub b34 [1, 0, 1, 0]) (y := sub b34 [1, 0, 1, 1]) (n := 0) (lx := []) (ly := []) E34_ok mix (by kernel_rfl) (by kernel_rfl) (by kernel_rfl) trivial trivial (fun v => by kernel_rfl)

theorem f34_ok : Enters Tryz.prog 34 ∧ FunOK Tryz.prog 34 sp34 :=
  fn_ok (fn := Tryz.f34) (c := b34) (l := [(c34_0, sub b34 [1, 0, 1])]) E34_ok mix Tryz.func34 (by kernel_rfl) (by kernel_rfl) (by kernel_rfl) (by kernel_rfl) (by kernel_rfl) (by kernel_rfl) ⟨⟨by kernel_rfl, c34_0_ok⟩, trivial⟩ (fun v => by kernel_rfl)

def sp23 : FSpec := ⟨[.val (.int .u64)], [.val (.int .i64)], f23⟩

def fs23 : List (Nat × FSpec) := [(35, sp35)]

theorem fs23_ok : FsOK Tryz.prog fs23 := ⟨f35_ok, trivial⟩

noncomputable def E23 : Env := ⟨lookN tys, lookN fs23, lookN [], (fun d => hasN d []), elOf Tryz.prog els⟩

theorem E23_ok : EnvOK Tryz.prog E23 := envOK_of tys_ok els_ok fs23_ok

noncomputable def b23 : Code := bodyOf Tryz.f23

theorem f23_ok : Enters Tryz.prog 23 ∧ FunOK Tryz.prog 23 sp23 :=
  fn_ok (fn := Tryz.f23) (c := b23) (l := []) E23_ok mix Tryz.func23 (by kernel_rfl) (by kernel_rfl) (by kernel_rfl) (by kernel_rfl) (by kernel_rfl) (by kernel_rfl) trivial (fun v => by kernel_rfl)

def sp26 : FSpec := ⟨[.io 46 (.agg (.prod .str (.prod (.slice .str) (.prod .str (.prod (.int .i64) (.prod .bool (.prod .str (.slice (.agg (.prod .str (.prod (.int .i64) (.prod (.slice (.agg (.prod (.int .i64) .str))) (.prod (.slice .str) (.slice .str)))))))))))))), .val (.int .i64), .val (.int .i64), .hof (.prod (.agg (.prod .str (.prod (.slice .str) (.prod .str (.prod (.int .i64) (.prod .bool (.prod .str (.slice (.agg (.prod .str (.prod (.int .i64) (.prod (.slice (.agg (.prod (.int .i64) .str))) (.prod (.slice .str) (.slice .str)))))))))))))) (.agg (.prod .str (.prod (.slice .str) (.prod .str (.prod (.int .i64) (.prod .bool (.prod .str (.slice (.agg (.prod .str (.prod (.int .i64) (.prod (.slice (.agg (.prod (.int .i64) .str))) (.prod (.slice .str) (.slice .str))))))))))))))) (.int .i64)], [], f26⟩

def fs26 : List (Nat × FSpec) := []

theorem fs26_ok : FsOK Tryz.prog fs26 := trivial

def c26_2 : CSpec := ⟨⟨[0, 1, 3, 9], [.own 46 (.agg (.prod .str (.prod (.slice .str) (.prod .str (.prod (.int .i64) (.prod .bool (.prod .str (.slice (.agg (.prod .str (.prod (.int .i64) (.prod (.slice (.agg (.prod (.int .i64) .str))) (.prod (.slice .str) (.slice .str)))))))))))))) true, .val (.int .i64), .hof (.prod (.agg (.prod .str (.prod (.slice .str) (.prod .str (.prod (.int .i64) (.prod .bool (.prod .str (.slice (.agg (.prod .str (.prod (.int .i64) (.prod (.slice (.agg (.prod (.int .i64) .str))) (.prod (.slice .str) (.slice .str)))))))))))))) (.agg (.prod .str (.prod (.slice .str) (.prod .str (.prod (.int .i64) (.prod .bool (.prod .str (.slice (.agg (.prod .str (.prod (.int .i64) (.prod (.slice (.agg (.prod (.int .i64) .str))) (.prod (.slice .str) (.slice .str))))))))))))))) (.int .i64), .val (.int .i64)]⟩, [((.exit 2), ⟨[0], [.own 46 (.agg (.prod .str (.prod (.slice .str) (.prod .str (.prod (.int .i64) (.prod .bool (.prod .str (.slice (.agg (.prod .str (.prod (.int .i64) (.prod (.slice (.agg (.prod (.int .i64) .str))) (.prod (.slice .str) (.slice .str)))))))))))))) true]⟩)], [9, 18, 19, 20, 21, 22, 23, 24, 25, 26, 27, 28, 29, 30, 31, 32, 33, 34, 35, 36, 37, 38, 39, 40, 41, 42, 43, 44, 45, 46, 47, 48, 49, 50, 51, 52], f26_l2⟩

def c26_0 : CSpec := ⟨⟨[0, 1, 2, 3, 8], [.own 46 (.agg (.prod .str (.prod (.slice .str) (.prod .str (.prod (.int .i64) (.prod .bool (.prod .str (.slice (.agg (.prod .str (.prod (.int .i64) (.prod (.slice (.agg (.prod (.int .i64) .str))) (.prod (.slice .str) (.slice .str)))))))))))))) true, .val (.int .i64), .val (.int .i64), .hof (.prod (.agg (.prod .str (.prod (.slice .str) (.prod .str (.prod (.int .i64) (.prod .bool (.prod .str (.slice (.agg (.prod .str (.prod (.int .i64) (.prod (.slice (.agg (.prod (.int .i64) .str))) (.prod (.slice .str) (.slice .str)))))))))))))) (.agg (.prod .str (.prod (.slice .str) (.prod .str (.prod (.int .i64) (.prod .bool (.prod .str (.slice (.agg (.prod .str (.prod (.int .i64) (.prod (.slice (.agg (.prod (.int .i64) .str))) (.prod (.slice .str) (.slice .str))))))))))))))) (.int .i64), .val (.int .i64)]⟩, [((.exit 0), ⟨[0], [.own 46 (.agg (.prod .str (.prod (.slice .str) (.prod .str (.prod (.int .i64) (.prod .bool (.prod .str (.slice (.agg (.prod .str (.prod (.int .i64) (.prod (.slice (.agg (.prod (.int .i64) .str))) (.prod (.slice .str) (.slice .str)))))))))))))) true]⟩)], [8, 9, 12, 13, 14, 15, 16, 17, 18, 19, 20, 21, 22, 23, 24, 25, 26, 27, 28, 29, 30, 31, 32, 33, 34, 35, 36, 37, 38, 39, 40, 41, 42, 43, 44, 45, 46, 47, 48, 49, 50, 51, 52], f26_l0⟩

noncomputable def E26 : Env := ⟨lookN tys, lookN fs26, lookN [(2, c26_2), (0, c26_0)], (fun d => hasN d []), elOf Tryz.prog els⟩

theorem E26_ok : EnvOK Tryz.prog E26 := envOK_of tys_ok els_ok fs26_ok

noncomputable def b26 : Code := bodyOf Tryz.f26

theorem c26_2_ok : CutOK Tryz.prog Tryz.f26.ntmps c26_2 (sub b26 [1, 0, 0, 1, 0, 0, 1, 0]) :=
  loop_ok (body := sub b26 [1, 0, 0, 1, 0, 0, 1, 0, 0]) (n := 3) (l := []) E26_ok mix (by kernel_rfl) (by kernel_rfl) trivial (fun next v => by kernel_rfl) fuel

theorem c26_0_ok : CutOK Tryz.prog Tryz.f26.ntmps c26_0 (sub b26 [1, 0]) :=
  loop_ok (body := sub b26 [1, 0, 0]) (n := 1) (l := [(c26_2, sub b26 [1, 0, 0, 1, 0, 0, 1, 0])]) E26_ok mix (by kernel_rfl) (by kernel_rfl) ⟨⟨by kernel_rfl, c26_2_ok⟩, trivial⟩ (fun next v => by kernel_rfl) fuel

theorem f26_ok : Enters Tryz.prog 26 ∧ FunOK Tryz.prog 26 sp26 :=
  fn_ok (fn := Tryz.f26) (c := b26) (l := [(c26_0, sub b26 [1, 0])]) E26_ok mix Tryz.func26 (by kernel_rfl) (by kernel_rfl) (by kernel_rfl) (by kernel_rfl) (by kernel_rfl) (by kernel_rfl) ⟨⟨by kernel_rfl, c26_0_ok⟩, trivial⟩ (fun v => by kernel_rfl)

def sp22 : FSpec := ⟨[.io 46 (.agg (.prod .str (.prod (.slice .str) (.prod .str (.prod (.int .i64) (.prod .bool (.prod .str (.slice (.agg (.prod .str (.prod (.int .i64) (.prod (.slice (.agg (.prod (.int .i64) .str))) (.prod (.slice .str) (.slice .str)))))))))))))), .val (.int .i64), .val (.int .i64), .val (.int .i64), .hof (.prod (.agg (.prod .str (.prod (.slice .str) (.prod .str (.prod (.int .i64) (.prod .bool (.prod .str (.slice (.agg (.prod .str (.prod (.int .i64) (.prod (.slice (.agg (.prod (.int .i64) .str))) (.prod (.slice .str) (.slice .str)))))))))))))) (.agg (.prod .str (.prod (.slice .str) (.prod .str (.prod (.int .i64) (.prod .bool (.prod .str (.slice (.agg (.prod .str (.prod (.int .i64) (.prod (.slice (.agg (.prod (.int .i64) .str))) (.prod (.slice .str) (.slice .str))))))))))))))) (.int .i64)], [], f22⟩

def fs22 : List (Nat × FSpec) := [(26, sp26)]

theorem fs22_ok : FsOK Tryz.prog fs22 := ⟨f26_ok, trivial⟩

def c22_3 : CSpec := ⟨⟨[0, 1, 2, 3, 4, 39], [.own 46 (.agg (.prod .str (.prod (.slice .str) (.prod .str (.prod (.int .i64) (.prod .bool (.prod .str (.slice (.agg (.prod .str (.prod (.int .i64) (.prod (.slice (.agg (.prod (.int .i64) .str))) (.prod (.slice .str) (.slice .str)))))))))))))) true, .val (.int .i64), .val (.int .i64), .val (.int .i64), .hof (.prod (.agg (.prod .str (.prod (.slice .str) (.prod .str (.prod (.int .i64) (.prod .bool (.prod .str (.slice (.agg (.prod .str (.prod (.int .i64) (.prod (.slice (.agg (.prod (.int .i64) .str))) (.prod (.slice .str) (.slice .str)))))))))))))) (.agg (.prod .str (.prod (.slice .str) (.prod .str (.prod (.int .i64) (.prod .bool (.prod .str (.slice (.agg (.prod .str (.prod (.int .i64) (.prod (.slice (.agg (.prod (.int .i64) .str))) (.prod (.slice .str) (.slice .str))))))))))))))) (.int .i64), .val .bool]⟩, [(.normal, ⟨[0, 3], [.own 46 (.agg (.prod .str (.prod (.slice .str) (.prod .str (.prod (.int .i64) (.prod .bool (.prod .str (.slice (.agg (.prod .str (.prod (.int .i64) (.prod (.slice (.agg (.prod (.int .i64) .str))) (.prod (.slice .str) (.slice .str)))))))))))))) true, .val (.int .i64)]⟩)], [3, 40, 41, 42, 43, 44, 45, 46], f22_p3⟩

def c22_0 : CSpec := ⟨⟨[0, 1, 2, 3, 4, 10, 11], [.own 46 (.agg (.prod .str (.prod (.slice .str) (.prod .str (.prod (.int .i64) (.prod .bool (.prod .str (.slice (.agg (.prod .str (.prod (.int .i64) (.prod (.slice (.agg (.prod (.int .i64) .str))) (.prod (.slice .str) (.slice .str)))))))))))))) true, .val (.int .i64), .val (.int .i64), .val (.int .i64), .hof (.prod (.agg (.prod .str (.prod (.slice .str) (.prod .str (.prod (.int .i64) (.prod .bool (.prod .str (.slice (.agg (.prod .str (.prod (.int .i64) (.prod (.slice (.agg (.prod (.int .i64) .str))) (.prod (.slice .str) (.slice .str)))))))))))))) (.agg (.prod .str (.prod (.slice .str) (.prod .str (.prod (.int .i64) (.prod .bool (.prod .str (.slice (.agg (.prod .str (.prod (.int .i64) (.prod (.slice (.agg (.prod (.int .i64) .str))) (.prod (.slice .str) (.slice .str))))))))))))))) (.int .i64), .val .bool, .val .bool]⟩, [(.ret, ⟨[0], [.io 46 (.agg (.prod .str (.prod (.slice .str) (.prod .str (.prod (.int .i64) (.prod .bool (.prod .str (.slice (.agg (.prod .str (.prod (.int .i64) (.prod (.slice (.agg (.prod (.int .i64) .str))) (.prod (.slice .str) (.slice .str))))))))))))))]⟩)], [1, 2, 3, 10, 11, 12, 13, 14, 15, 16, 17, 18, 19, 20, 21, 22, 23, 24, 25, 26, 27, 28, 29, 30, 31, 32, 33, 34, 35, 36, 37, 38, 39, 40, 41, 42, 43, 44, 45, 46, 47, 48, 49, 50, 51, 52, 53, 54, 55, 56, 57, 58, 59, 60, 61, 62, 63, 64, 65, 66, 67, 68, 69, 70, 71, 72, 73, 74, 75, 76, 77, 78, 79, 80, 81, 82, 83, 84, 85, 86, 87, 88, 89, 90, 91, 92, 93, 94, 95, 96, 97, 98, 99, 100, 101, 102, 103, 104, 105, 106, 107, 108, 109, 110, 111, 112, 113, 114, 115, 116, 117, 118, 119, 120, 121, 122, 123, 124, 125, 126, 127, 128, 129, 130, 131, 132, 133, 134, 135, 136, 137, 138, 139, 140, 141, 142, 143, 144, 145, 146, 147], f22_l0⟩

noncomputable def E22 : Env := ⟨lookN tys, lookN fs22, lookN [(3, c22_3), (0, c22_0)], (fun d => hasN d []), elOf Tryz.prog els⟩

theorem E22_ok : EnvOK Tryz.prog E22 := envOK_of tys_ok els_ok fs22_ok

noncomputable def b22 : Code := bodyOf Tryz.f22

theorem c22_3_ok : CutOK Tryz.prog Tryz.f22.ntmps c22_3 (sub b22 [1, 1, 0, 0, 0, 1, 1, 1, 0, 1]) :=
  branch_ok (c := condOf (sub b22 [1, 1, 0, 0, 0, 1, 1, 1, 0, 1])) (x := sub b22 [1, 1, 0, 0, 0, 1, 1, 1, 0, 1, 0]) (y := sub b22 [1, 1, 0, 0, 0, 1, 1, 1, 0, 1, 1]) (n := 3) (lx := []) (ly := []) E22_ok mix (by kernel_rfl) (by kernel_rfl) (by kernel_rfl) trivial trivial (fun v => by kernel_rfl)

theorem c22_0_ok : CutOK Tryz.prog Tryz.f22.ntmps c22_0 (sub b22 [1, 1, 0]) :=
  loop_ok (body := sub b22 [1, 1, 0, 0]) (n := 1) (l := [(c22_3, sub b22 [1, 1, 0, 0, 0, 1, 1, 1, 0, 1])]) E22_ok mix (by kernel_rfl) (by kernel_rfl) ⟨⟨by kernel_rfl, c22_3_ok⟩, trivial⟩ (fun next v => by kernel_rfl) fuel

theorem f22_ok : Enters Tryz.prog 22 ∧ FunOK Tryz.prog 22 sp22 :=
  fn_ok (fn := Tryz.f22) (c := b22) (l := [(c22_0, sub b22 [1, 1, 0])]) E22_ok mix Tryz.func22 (by kernel_rfl) (by kernel_rfl) (by kernel_rfl) (by kernel_rfl) (by kernel_rfl) (by kernel_rfl) ⟨⟨by kernel_rfl, c22_0_ok⟩, trivial⟩ (fun v => by kernel_rfl)

def sp17 : FSpec := ⟨[.io 46 (.agg (.prod .str (.prod (.slice .str) (.prod .str (.prod (.int .i64) (.prod .bool (.prod .str (.slice (.agg (.prod .str (.prod (.int .i64) (.prod (.slice (.agg (.prod (.int .i64) .str))) (.prod (.slice .str) (.slice .str)))))))))))))), .hof (.prod (.agg (.prod .str (.prod (.slice .str) (.prod .str (.prod (.int .i64) (.prod .bool (.prod .str (.slice (.agg (.prod .str (.prod (.int .i64) (.prod (.slice (.agg (.prod (.int .i64) .str))) (.prod (.slice .str) (.slice .str)))))))))))))) (.agg (.prod .str (.prod (.slice .str) (.prod .str (.prod (.int .i64) (.prod .bool (.prod .str (.slice (.agg (.prod .str (.prod (.int .i64) (.prod (.slice (.agg (.prod (.int .i64) .str))) (.prod (.slice .str) (.slice .str))))))))))))))) (.int .i64)], [], f17⟩

def fs17 : List (Nat × FSpec) := [(22, sp22), (23, sp23)]

theorem fs17_ok : FsOK Tryz.prog fs17 := ⟨f22_ok, f23_ok, trivial⟩

noncomputable def E17 : Env := ⟨lookN tys, lookN fs17, lookN [], (fun d => hasN d []), elOf Tryz.prog els⟩

theorem E17_ok : EnvOK Tryz.prog E17 := envOK_of tys_ok els_ok fs17_ok

noncomputable def b17 : Code := bodyOf Tryz.f17

theorem f17_ok : Enters Tryz.prog 17 ∧ FunOK Tryz.prog 17 sp17 :=
  fn_ok (fn := Tryz.f17) (c := b17) (l := []) E17_ok mix Tryz.func17 (by kernel_rfl) (by kernel_rfl) (by kernel_rfl) (by kernel_rfl) (by kernel_rfl) (by kernel_rfl) trivial (fun v => by kernel_rfl)

def sp12 : FSpec := ⟨[.val (.slice (.agg (.prod .str (.prod (.slice .str) (.prod .str (.prod (.int .i64) (.prod .bool (.prod .str (.slice (.agg (.prod .str (.prod (.int .i64) (.prod (.slice (.agg (.prod (.int .i64) .str))) (.prod (.slice .str) (.slice .str)))))))))))))))], [.val (.agg (.prod (.int .i64) (.prod (.slice (.agg (.prod .str (.prod (.slice .str) (.prod .str (.prod (.int .i64) (.prod .bool (.prod .str (.slice (.agg (.prod .str (.prod (.int .i64) (.prod (.slice (.agg (.prod (.int .i64) .str))) (.prod (.slice .str) (.slice .str))))))))))))))) (.slice (.int .i64))))), .val (.int .i64)], f12⟩

def fs12 : List (Nat × FSpec) := [(15, sp15), (16, sp16), (17, sp17), (18, sp18)]

theorem fs12_ok : FsOK Tryz.prog fs12 := ⟨f15_ok, f16_ok, f17_ok, f18_ok, trivial⟩

def c12_1 : CSpec := ⟨⟨[5, 15, 16, 17], [.box (.pr (.val (.int .i64)) (.pr (.own 46 (.agg (.prod .str (.prod (.slice .str) (.prod .str (.prod (.int .i64) (.prod .bool (.prod .str (.slice (.agg (.prod .str (.prod (.int .i64) (.prod (.slice (.agg (.prod (.int .i64) .str))) (.prod (.slice .str) (.slice .str)))))))))))))) true) (.own 3 (.int .i64) true))), .val (.slice (.agg (.prod .str (.prod (.slice .str) (.prod .str (.prod (.int .i64) (.prod .bool (.prod .str (.slice (.agg (.prod .str (.prod (.int .i64) (.prod (.slice (.agg (.prod (.int .i64) .str))) (.prod (.slice .str) (.slice .str))))))))))))))), .val (.int .i64), .val (.int .i64)]⟩, [((.exit 0), ⟨[5], [.box (.pr (.val (.int .i64)) (.pr (.own 46 (.agg (.prod .str (.prod (.slice .str) (.prod .str (.prod (.int .i64) (.prod .bool (.prod .str (.slice (.agg (.prod .str (.prod (.int .i64) (.prod (.slice (.agg (.prod (.int .i64) .str))) (.prod (.slice .str) (.slice .str)))))))))))))) true) (.own 3 (.int .i64) true)))]⟩)], [7, 17, 18, 19, 20, 21, 22, 23, 24, 25, 26, 27, 28, 29, 30, 31, 32, 33], f12_l1⟩

def c12_3 : CSpec := ⟨⟨[2, 5, 8], [.box (.val (.prod (.int .i64) (.prod (.slice (.agg (.prod .str (.prod (.slice .str) (.prod .str (.prod (.int .i64) (.prod .bool (.prod .str (.slice (.agg (.prod .str (.prod (.int .i64) (.prod (.slice (.agg (.prod (.int .i64) .str))) (.prod (.slice .str) (.slice .str))))))))))))))) (.slice (.int .i64))))), .box (.pr (.val (.int .i64)) (.pr (.own 46 (.agg (.prod .str (.prod (.slice .str) (.prod .str (.prod (.int .i64) (.prod .bool (.prod .str (.slice (.agg (.prod .str (.prod (.int .i64) (.prod (.slice (.agg (.prod (.int .i64) .str))) (.prod (.slice .str) (.slice .str)))))))))))))) true) (.own 3 (.int .i64) true))), .val (.int .i64)]⟩, [((.exit 2), ⟨[2, 5], [.box (.val (.prod (.int .i64) (.prod (.slice (.agg (.prod .str (.prod (.slice .str) (.prod .str (.prod (.int .i64) (.prod .bool (.prod .str (.slice (.agg (.prod .str (.prod (.int .i64) (.prod (.slice (.agg (.prod (.int .i64) .str))) (.prod (.slice .str) (.slice .str))))))))))))))) (.slice (.int .i64))))), .box (.pr (.val (.int .i64)) (.pr (.own 46 (.agg (.prod .str (.prod (.slice .str) (.prod .str (.prod (.int .i64) (.prod .bool (.prod .str (.slice (.agg (.prod .str (.prod (.int .i64) (.prod (.slice (.agg (.prod (.int .i64) .str))) (.prod (.slice .str) (.slice .str)))))))))))))) true) (.own 3 (.int .i64) true)))]⟩), (.ret, ⟨[2, 3], [.box (.val (.prod (.int .i64) (.prod (.slice (.agg (.prod .str (.prod (.slice .str) (.prod .str (.prod (.int .i64) (.prod .bool (.prod .str (.slice (.agg (.prod .str (.prod (.int .i64) (.prod (.slice (.agg (.prod (.int .i64) .str))) (.prod (.slice .str) (.slice .str))))))))))))))) (.slice (.int .i64))))), .val (.int .i64)]⟩)], [3, 8, 37, 38, 39, 40, 41, 42, 43, 44, 45, 46, 47, 48, 49, 50, 51, 52, 53, 54, 55, 56, 57, 58], f12_l3⟩

noncomputable def E12 : Env := ⟨lookN tys, lookN fs12, lookN [(1, c12_1), (3, c12_3)], (fun d => hasN d [26, 31]), elOf Tryz.prog els⟩

theorem E12_ok : EnvOK Tryz.prog E12 := envOK_of tys_ok els_ok fs12_ok

noncomputable def b12 : Code := bodyOf Tryz.f12

theorem c12_1_ok : CutOK Tryz.prog Tryz.f12.ntmps c12_1 (sub b12 [1, 1, 1, 0, 1, 0]) :=
  loop_ok (body := sub b12 [1, 1, 1, 0, 1, 0, 0]) (n := 2) (l := []) E12_ok mix (by kernel_rfl) (by kernel_rfl) trivial (fun next v => by kernel_rfl) fuel

theorem c12_3_ok : CutOK Tryz.prog Tryz.f12.ntmps c12_3 (sub b12 [1, 1, 1, 1, 1, 0, 1, 0]) :=
  loop_ok (body := sub b12 [1, 1, 1, 1, 1, 0, 1, 0, 0]) (n := 4) (l := []) E12_ok mix (by kernel_rfl) (by kernel_rfl) trivial (fun next v => by kernel_rfl) fuel

theorem f12_ok : Enters Tryz.prog 12 ∧ FunOK Tryz.prog 12 sp12 :=
  fn_ok (fn := Tryz.f12) (c := b12) (l := [(c12_1, sub b12 [1, 1, 1, 0, 1, 0]), (c12_3, sub b12 [1, 1, 1, 1, 1, 0, 1, 0])]) E12_ok mix Tryz.func12 (by kernel_rfl) (by kernel_rfl) (by kernel_rfl) (by kernel_rfl) (by kernel_rfl) (by kernel_rfl) ⟨⟨by kernel_rfl, c12_1_ok⟩, ⟨by kernel_rfl, c12_3_ok⟩, trivial⟩ (fun v => by kernel_rfl)

def sp6 : FSpec := ⟨[], [.val .bool], f6⟩

def fs6 : List (Nat × FSpec) := [(5, sp5), (12, sp12)]

theorem fs6_ok : FsOK Tryz.prog fs6 := ⟨f5_ok, f12_ok, trivial⟩

noncomputable def E6 : Env := ⟨lookN tys, lookN fs6, lookN [], (fun d => hasN d []), elOf Tryz.prog els⟩

theorem E6_ok : EnvOK Tryz.prog E6 := envOK_of tys_ok els_ok fs6_ok

noncomputable def b6 : Code := bodyOf Tryz.f6

theorem f6_ok : Enters Tryz.prog 6 ∧ FunOK Tryz.prog 6 sp6 :=
  fn_ok (fn := Tryz.f6) (c := b6) (l := []) E6_ok mix Tryz.func6 (by kernel_rfl) (by kernel_rfl) (by kernel_rfl) (by kernel_rfl) (by kernel_rfl) (by kernel_rfl) trivial (fun v => by kernel_rfl)

def sp4 : FSpec := ⟨[.val .str, .val (.int .i64)], [.val .bool], f4⟩

def fs4 : List (Nat × FSpec) := [(5, sp5), (6, sp6), (8, sp8), (9, sp9), (10, sp10)]

theorem fs4_ok : FsOK Tryz.prog fs4 := ⟨f5_ok, f6_ok, f8_ok, f9_ok, f10_ok, trivial⟩

noncomputable def E4 : Env := ⟨lookN tys, lookN fs4, lookN [], (fun d => hasN d []), elOf Tryz.prog els⟩

theorem E4_ok : EnvOK Tryz.prog E4 := envOK_of tys_ok els_ok fs4_ok

noncomputable def b4 : Code := bodyOf Tryz.f4

theorem f4_ok : Enters Tryz.prog 4 ∧ FunOK Tryz.prog 4 sp4 :=
  fn_ok (fn := Tryz.f4) (c := b4) (l := []) E4_ok mix Tryz.func4 (by kernel_rfl) (by kernel_rfl) (by kernel_rfl) (by kernel_rfl) (by kernel_rfl) (by kernel_rfl) trivial (fun v => by kernel_rfl)

def sp3 : FSpec := ⟨[.val .str, .val (.int .i64), .val (.int .u8)], [.val .bool], f3⟩

def fs3 : List (Nat × FSpec) := [(5, sp5), (6, sp6), (7, sp7)]

theorem fs3_ok : FsOK Tryz.prog fs3 := ⟨f5_ok, f6_ok, f7_ok, trivial⟩

noncomputable def E3 : Env := ⟨lookN tys, lookN fs3, lookN [], (fun d => hasN d []), elOf Tryz.prog els⟩

theorem E3_ok : EnvOK Tryz.prog E3 := envOK_of tys_ok els_ok fs3_ok

noncomputable def b3 : Code := bodyOf Tryz.f3

theorem f3_ok : Enters Tryz.prog 3 ∧ FunOK Tryz.prog 3 sp3 :=
  fn_ok (fn := Tryz.f3) (c := b3) (l := []) E3_ok mix Tryz.func3 (by kernel_rfl) (by kernel_rfl) (by kernel_rfl) (by kernel_rfl) (by kernel_rfl) (by kernel_rfl) trivial (fun v => by kernel_rfl)

end Go.Ev.Pv
