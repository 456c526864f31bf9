/-
  Each of the program's functions keeps what its plain function says.
-/
import Derived.Test.YthepbdhoogphdaaGreatDoorD
import Derived.Test.YthepbdhoogphdaaGreatDoorG
import Derived.Test.YthepbdhoogphdaaGreatDoorProg
set_option linter.unusedVariables false
set_option linter.unusedSimpArgs false
set_option linter.unusedSectionVars false
set_option maxRecDepth 100000
namespace Go.Ev.Pv
def seg : Nat → Nat → List Nat
 | _, 0 => []
 | a, n + 1 => a :: seg (a + 1) n
abbrev ZZ14 : Ty := (.prod (.int .i64) (.prod .str (.prod .str .bool)))
abbrev ZZ16 : Ty := (.slice (.int .i64))
abbrev ZZ6 : Ty := (.prod (.int .i64) (.prod ZZ16 (.prod (.int .i64) (.prod (.int .i64) (.prod (.int .i64) (.prod (.int .i64) (.slice .str)))))))
abbrev ZZ12 : Ty := (.agg (.prod .bool (.prod .str (.int .i64))))
abbrev ZZ1 : Ty := (.ialt 176 (.agg (.prod (.arr 3 (.int .i64)) (.slice .str))) (.ialt 182 (.agg ZZ14) (.ialt 187 (.agg ZZ6) (.ialt 208 (.agg (.slice ZZ12)) (.ialt 213 (.agg (.int .i64)) .inil)))))
abbrev ZZ19 : Ty := (.slice (.agg (.prod (.int .i64) .str)))
abbrev ZZ7 : Ty := (.prod .str (.prod (.int .i64) (.prod ZZ19 (.prod (.slice .str) (.slice .str)))))
abbrev ZZ2 : Ty := (.prod .str (.prod (.slice .str) (.prod .str (.prod (.int .i64) (.prod .bool (.prod .str (.slice (.agg ZZ7))))))))
abbrev ZZ3 : Ty := (.agg (.prod (.int .i64) (.prod .str (.prod .str (.int .i64)))))
abbrev ZZ13 : Ty := (.prod (.int .i64) (.prod .str (.prod .bool .str)))
abbrev ZZ4 : Ty := (.prod (.agg ZZ13) (.agg ZZ13))
abbrev ZZ17 : Ty := (.prod .bool (.prod .bool .str))
abbrev ZZ5 : Ty := (.agg (.prod (.agg ZZ17) (.agg ZZ17)))
abbrev ZZ8 : Ty := (.agg (.prod .str .str))
abbrev ZZ9 : Ty := (.prod .str (.prod (.int .i64) (.int .i64)))
abbrev ZZ10 : Ty := (.prod .str (.prod .str (.prod .str (.prod .str (.prod (.slice ZZ8) .str)))))
abbrev ZZ11 : Ty := (.prod (.int .i64) (.slice ZZ5))
abbrev ZZ15 : Ty := (.agg (.prod .str (.prod (.int .i64) (.prod .bool (.prod .bool (.int .i64))))))
abbrev ZZ18 : Ty := (.slice (.agg ZZ4))
abbrev ZZ20 : Ty := (.prod (.int .i64) (.prod (.slice (.agg ZZ2)) ZZ16))
abbrev ZZ21 : Ty := (.prod ZZ8 ZZ8)
abbrev ZZ22 : Ty := (.prod ZZ3 ZZ3)
open Go.Proofs
def tys : List (Nat × Ty) := [(3, (.int .i64)), (4, .bool), (5, (.int .u8)), (9, .str), (22, (.slice (.agg ZZ2))), (23, (.slice .str)), (29, (.slice (.agg ZZ7))), (31, (.agg ZZ2)), (35, ZZ19), (37, (.agg ZZ7)), (40, (.slice ZZ5)), (42, (.agg ZZ11)), (53, ZZ16), (60, (.agg ZZ20)), (74, ZZ18), (78, ZZ1), (100, (.int .u64)), (101, (.map (.int .u8) (.int .i64))), (102, (.arr 6 (.map (.int .u8) (.int .i64)))), (104, (.arr 6 (.int .i64))), (107, (.agg (.prod (.int .i64) .str))), (112, (.agg ZZ17)), (114, ZZ5), (117, (.agg ZZ13)), (120, (.agg ZZ4)), (125, (.slice ZZ3)), (128, ZZ3), (135, (.slice (.agg ZZ11))), (157, (.slice ZZ1)), (160, (.slice ZZ8)), (162, (.agg ZZ10)), (169, (.arr 4 (.int .i64))), (174, (.arr 3 (.int .i64))), (176, (.agg (.prod (.arr 3 (.int .i64)) (.slice .str)))), (182, (.agg ZZ14)), (187, (.agg ZZ6)), (195, (.slice (.int .u8))), (197, (.agg (.prod .self (.slice (.int .u8))))), (206, (.slice ZZ12)), (208, (.agg (.slice ZZ12))), (210, ZZ12), (213, (.agg (.int .i64))), (230, (.agg ZZ9)), (234, ZZ8), (275, ZZ15), (306, (.arr 5 ZZ15))]
theorem ucci_ : tysOK Tryz.prog tys = true := by kernel_rfl
def els : List (Nat × Nat) := [(22, 31), (23, 9), (29, 37), (35, 107), (40, 114), (53, 3), (74, 120), (125, 128), (135, 42), (157, 78), (160, 234), (195, 5), (206, 210)]
theorem uccj_ : elsOK Tryz.prog els = true := by kernel_rfl
def eqs : List Nat := []
theorem ucck_ : eqsOK Tryz.prog tys eqs = true := by kernel_rfl
theorem mix : Tryz.prog.follows .mixedOrders = true := by kernel_rfl
noncomputable def mname (t i : Nat) : String := (((Tryz.prog.types[t]?).bind fun x => x.methods[i]?).map fun m => m.name).getD default
noncomputable def ms : List (String × Nat × Nat) := [(mname 176 0, 176, 299), (mname 176 1, 176, 300), (mname 182 0, 182, 306), (mname 182 1, 182, 307), (mname 187 0, 187, 314), (mname 187 1, 187, 315), (mname 208 0, 208, 323), (mname 208 1, 208, 324), (mname 213 0, 213, 329), (mname 213 1, 213, 330)]
theorem ms_ok : MsOK Tryz.prog ms := ⟨(fun v w => by kernel_rfl), (fun v w => by kernel_rfl), (fun v w => by kernel_rfl), (fun v w => by kernel_rfl), (fun v w => by kernel_rfl), (fun v w => by kernel_rfl), (fun v w => by kernel_rfl), (fun v w => by kernel_rfl), (fun v w => by kernel_rfl), (fun v w => by kernel_rfl), trivial⟩
noncomputable def mkE (fs : List (Nat × FSpec)) (cs : List (Nat × CSpec)) (wr : List Nat) (dr : Bool) : Env := ⟨lookN tys, lookN fs, lookN cs, (fun d => hasN d wr), elOf Tryz.prog els, lookM ms, (fun t => hasN t eqs), dr⟩
theorem enk {dr : Bool} {fs : List (Nat × FSpec)} {cs : List (Nat × CSpec)} {wr : List Nat} (h3 : FsOK Tryz.prog fs) (h6 : (!dr || fs.all fun p => p.2.dr) = true := by kernel_rfl) : EnvOK Tryz.prog dr (mkE fs cs wr dr) := ucab_ ucci_ uccj_ h3 ms_ok ucck_ h6
theorem fnk {dr : Bool} {E : Env} {f : FuncId} {fn : Func} {c : Code} {ps rs : List Sh} {F : TupR ps → Option (TupR (rs ++ ps.filter isBox))} {l : List (CSpec × Code)} (hE : EnvOK Tryz.prog dr E)
 (hf : Tryz.prog.funcs[f]? = some fn) (hc : AllCuts Tryz.prog dr fn.ntmps (okFun fn.ntmps ps) l) (hnm : (fn.name == "runtime.NumGoroutine") = false := by kernel_rfl) (hb : fn.body = some c := by kernel_rfl) (hd : dstOK (okFun fn.ntmps ps) c = true := by kernel_rfl) (hn : Nat.ble ps.length fn.ntmps = true := by kernel_rfl) (hl : Nat.beq fn.results.toList.length rs.length = true := by kernel_rfl)
 (hcs : u7j_ E c 0 = l := by kernel_rfl) (hF : ∀ v, evFun E fn ps rs v = F v := by intro v; kernel_rfl) : uo_ Tryz.prog f ∧ FunOK Tryz.prog f ⟨ps, rs, F, dr⟩ := fn_ok hE mix hf hnm hb hd hn hl hcs hc hF
theorem lok {dr : Bool} {E : Env} {N n : Nat} {body : Code} {al : List (Nat × Nat)} {inn : Kp} {outs : List (Ex × Kp)} {wrs : List Nat} {r : (TupR inn.sh → Option (OutT outs)) → TupR inn.sh → Option (OutT outs)} {l : List (CSpec × Code)} (hE : EnvOK Tryz.prog dr E)
 (hc : AllCuts Tryz.prog dr N (okCut N wrs) l) (hd : dstOK (okCut N wrs) body = true := by kernel_rfl) (hcs : u7j_ E body n = l := by kernel_rfl) (hF : ∀ next v, ub49_ E body n al inn outs next v = r next v := by intro next v; kernel_rfl) :
 CutOK Tryz.prog dr N ⟨inn, outs, wrs, loopN r fuel, al⟩ (.loop body) := ucbh_ hE mix hd hcs hc hF fuel
theorem brk {dr : Bool} {E : Env} {N n : Nat} {c : Operand} {x y : Code} {al : List (Nat × Nat)} {inn : Kp} {outs : List (Ex × Kp)} {wrs : List Nat} {F : TupR inn.sh → Option (OutT outs)} {lx ly : List (CSpec × Code)} (hE : EnvOK Tryz.prog dr E)
 (hx : AllCuts Tryz.prog dr N (okCut N wrs) lx) (hy : AllCuts Tryz.prog dr N (okCut N wrs) ly) (hd : dstOK (okCut N wrs) (.cond c x y) = true := by kernel_rfl) (hcx : u7j_ E x (n + 1) = lx := by kernel_rfl) (hcy : u7j_ E y (n + 1 + nodes x) = ly := by kernel_rfl)
 (hF : ∀ v, ub69_ E c x y n al inn outs v = F v := by intro v; kernel_rfl) : CutOK Tryz.prog dr N ⟨inn, outs, wrs, F, al⟩ (.cond c x y) := ub76_ hE mix hd hcx hcy hx hy hF
noncomputable def ube8_ : FSpec := ⟨[.val .str], [.val .str], u1d_, true⟩
noncomputable def ubrw_ : List (Nat × FSpec) := []
theorem ubuq_ : FsOK Tryz.prog ubrw_ := trivial
noncomputable def u94_ : CSpec := ⟨⟨[3, 9, 10], [.own 5 (.int .u8) true, .val (.int .i64), .val (.int .i64)]⟩, [((.exit 0), ⟨[3], [.own 5 (.int .u8) true]⟩)], ([4, 5] ++ seg 10 18), ubev_, [(8, 3)]⟩
noncomputable def ub2b_ : Env := mkE ubrw_ [(0, u94_)] [7] true
theorem ubka_ : EnvOK Tryz.prog true ub2b_ := enk ubuq_
noncomputable def u95_ : Code := u0_ Tryz.f203
theorem ubsb_ : CutOK Tryz.prog true Tryz.f203.ntmps u94_ (sub u95_ [1, 1, 0, 1, 0]) :=
 lok (body := sub u95_ [1, 1, 0, 1, 0, 0]) (n := 1) (l := []) ubka_ trivial
theorem ubrx_ : uo_ Tryz.prog 203 ∧ FunOK Tryz.prog 203 ube8_ :=
 fnk (c := u95_) (l := [(u94_, sub u95_ [1, 1, 0, 1, 0])]) ubka_ Tryz.func203 ⟨⟨by kernel_rfl, ubsb_⟩, trivial⟩
noncomputable def ug4_ : FSpec := ⟨[.box (.val ZZ9), .val (.int .i64)], [], ue9_, true⟩
noncomputable def u41_ : List (Nat × FSpec) := []
theorem ube9_ : FsOK Tryz.prog u41_ := trivial
noncomputable def ubps_ : Env := mkE u41_ [] [] true
theorem ubh3_ : EnvOK Tryz.prog true ubps_ := enk ube9_
noncomputable def ubpt_ : Code := u0_ Tryz.f195
theorem ui9_ : uo_ Tryz.prog 195 ∧ FunOK Tryz.prog 195 ug4_ :=
 fnk (c := ubpt_) (l := []) ubh3_ Tryz.func195 trivial
noncomputable def uja_ : FSpec := ⟨[.val (.ptr (.agg ZZ9))], [.val (.int .u8)], uee_, true⟩
noncomputable def u42_ : List (Nat × FSpec) := []
theorem ubfa_ : FsOK Tryz.prog u42_ := trivial
noncomputable def ubpu_ : Env := mkE u42_ [] [] true
theorem ubh4_ : EnvOK Tryz.prog true ubpu_ := enk ubfa_
noncomputable def ubpv_ : Code := u0_ Tryz.f192
theorem unx_ : uo_ Tryz.prog 192 ∧ FunOK Tryz.prog 192 uja_ :=
 fnk (c := ubpv_) (l := []) ubh4_ Tryz.func192 trivial
noncomputable def u1u_ : FSpec := ⟨[.val (.int .u8)], [.val .bool], uxs_, true⟩
noncomputable def ubfb_ : List (Nat × FSpec) := []
theorem ubnh_ : FsOK Tryz.prog ubfb_ := trivial
noncomputable def ubwh_ : Env := mkE ubfb_ [] [] true
theorem ubpw_ : EnvOK Tryz.prog true ubwh_ := enk ubnh_
noncomputable def ubwi_ : Code := u0_ Tryz.f230
theorem ubfc_ : uo_ Tryz.prog 230 ∧ FunOK Tryz.prog 230 u1u_ :=
 fnk (c := ubwi_) (l := []) ubpw_ Tryz.func230 trivial
noncomputable def u43_ : FSpec := ⟨[.box (.val ZZ9), .val .bool], [.val .str], utp_, true⟩
noncomputable def u44_ : List (Nat × FSpec) := [(192, uja_), (195, ug4_), (203, ube8_), (230, u1u_)]
theorem ubfd_ : FsOK Tryz.prog u44_ := ⟨unx_, ui9_, ubrx_, ubfc_, trivial⟩
noncomputable def ur7_ : CSpec := ⟨⟨[0, 7], [.box (.val ZZ9), .val (.int .i64)]⟩, [((.exit 0), ⟨[0], [.box (.val ZZ9)]⟩), (.ret, ⟨[0, 4], [.box (.val ZZ9), .val .str]⟩)], ([4, 5] ++ seg 7 30), utn_, []⟩
noncomputable def ur8_ : CSpec := ⟨⟨[0], [.box (.val ZZ9)]⟩, [((.exit 2), ⟨[0], [.box (.val ZZ9)]⟩)], (seg 53 29), uto_, []⟩
noncomputable def ur9_ : CSpec := ⟨⟨[0, 45], [.box (.val ZZ9), .val .bool]⟩, [(.normal, ⟨[0], [.box (.val ZZ9)]⟩)], (seg 46 36), unr_, []⟩
noncomputable def ubpx_ : Env := mkE u44_ [(0, ur7_), (4, ur8_), (3, ur9_)] [] true
theorem uj2_ : EnvOK Tryz.prog true ubpx_ := enk ubfd_
noncomputable def ubz_ : Code := u0_ Tryz.f189
theorem ubc4_ : CutOK Tryz.prog true Tryz.f189.ntmps ur7_ (sub ubz_ [1, 0, 1, 0]) :=
 lok (body := sub ubz_ [1, 0, 1, 0, 0]) (n := 1) (l := []) uj2_ trivial
theorem ubc5_ : CutOK Tryz.prog true Tryz.f189.ntmps ur8_ (sub ubz_ [1, 1, 1, 0, 1, 1, 0]) :=
 lok (body := sub ubz_ [1, 1, 1, 0, 1, 1, 0, 0]) (n := 5) (l := []) uj2_ trivial
theorem ubc6_ : CutOK Tryz.prog true Tryz.f189.ntmps ur9_ (sub ubz_ [1, 1, 1, 0, 1]) :=
 brk (c := up7_ (sub ubz_ [1, 1, 1, 0, 1])) (x := sub ubz_ [1, 1, 1, 0, 1, 0]) (y := sub ubz_ [1, 1, 1, 0, 1, 1]) (n := 3) (lx := []) (ly := [(ur8_, sub ubz_ [1, 1, 1, 0, 1, 1, 0])]) uj2_ trivial ⟨⟨by kernel_rfl, ubc5_⟩, trivial⟩
theorem ubni_ : uo_ Tryz.prog 189 ∧ FunOK Tryz.prog 189 u43_ :=
 fnk (c := ubz_) (l := [(ur7_, sub ubz_ [1, 0, 1, 0]), (ur9_, sub ubz_ [1, 1, 1, 0, 1])]) uj2_ Tryz.func189 ⟨⟨by kernel_rfl, ubc4_⟩, ⟨by kernel_rfl, ubc6_⟩, trivial⟩
noncomputable def ubxv_ : FSpec := ⟨[.val (.int .u8)], [.val (.int .i64)], ubyt_, true⟩
noncomputable def ubxw_ : List (Nat × FSpec) := []
theorem ubyx_ : FsOK Tryz.prog ubxw_ := trivial
noncomputable def ub6q_ : Env := mkE ubxw_ [] [] true
theorem ub0o_ : EnvOK Tryz.prog true ub6q_ := enk ubyx_
noncomputable def ub6r_ : Code := u0_ Tryz.f257
theorem ub4k_ : uo_ Tryz.prog 257 ∧ FunOK Tryz.prog 257 ubxv_ :=
 fnk (c := ub6r_) (l := []) ub0o_ Tryz.func257 trivial
noncomputable def u1v_ : FSpec := ⟨[.box (.val ZZ9)], [.val (.int .u8), .val .bool], urm_, true⟩
noncomputable def u1w_ : List (Nat × FSpec) := [(111, uf9_), (195, ug4_), (257, ubxv_)]
theorem ubc7_ : FsOK Tryz.prog u1w_ := ⟨uhx_, ui9_, ub4k_, trivial⟩
noncomputable def uqb_ : CSpec := ⟨⟨[0, 6, 7, 63], [.box (.val ZZ9), .val (.int .i64), .val (.int .i64), .val .bool]⟩, [(.normal, ⟨[0, 7], [.box (.val ZZ9), .val (.int .i64)]⟩)], ([7] ++ seg 64 12), ull_, []⟩
noncomputable def uqc_ : CSpec := ⟨⟨[0, 5, 6], [.box (.val ZZ9), .val (.int .i64), .val (.int .i64)]⟩, [((.exit 0), ⟨[0, 5], [.box (.val ZZ9), .val (.int .i64)]⟩), (.ret, ⟨[0, 2, 3], [.box (.val ZZ9), .val (.int .u8), .val .bool]⟩)], ([2, 3, 5, 6, 7] ++ seg 48 42), ur1_, []⟩
noncomputable def ubnj_ : Env := mkE u1w_ [(5, uqb_), (3, uqc_)] [] true
theorem uon_ : EnvOK Tryz.prog true ubnj_ := enk ubc7_
noncomputable def udf_ : Code := u0_ Tryz.f231
theorem u96_ : CutOK Tryz.prog true Tryz.f231.ntmps uqb_ (sub udf_ [1, 1, 1, 1, 1, 0, 1, 0, 0, 1, 0, 0, 1, 0, 1]) :=
 brk (c := up7_ (sub udf_ [1, 1, 1, 1, 1, 0, 1, 0, 0, 1, 0, 0, 1, 0, 1])) (x := sub udf_ [1, 1, 1, 1, 1, 0, 1, 0, 0, 1, 0, 0, 1, 0, 1, 0]) (y := sub udf_ [1, 1, 1, 1, 1, 0, 1, 0, 0, 1, 0, 0, 1, 0, 1, 1]) (n := 5) (lx := []) (ly := []) uon_ trivial trivial
theorem u97_ : CutOK Tryz.prog true Tryz.f231.ntmps uqc_ (sub udf_ [1, 1, 1, 1, 1, 0, 1, 0]) :=
 lok (body := sub udf_ [1, 1, 1, 1, 1, 0, 1, 0, 0]) (n := 4) (l := [(uqb_, sub udf_ [1, 1, 1, 1, 1, 0, 1, 0, 0, 1, 0, 0, 1, 0, 1])]) uon_ ⟨⟨by kernel_rfl, u96_⟩, trivial⟩
theorem ubk7_ : uo_ Tryz.prog 231 ∧ FunOK Tryz.prog 231 u1v_ :=
 fnk (c := udf_) (l := [(uqc_, sub udf_ [1, 1, 1, 1, 1, 0, 1, 0])]) uon_ Tryz.func231 ⟨⟨by kernel_rfl, u97_⟩, trivial⟩
noncomputable def uny_ : FSpec := ⟨[.box (.val ZZ9)], [.val .str], uhs_, true⟩
noncomputable def u45_ : List (Nat × FSpec) := [(195, ug4_), (231, u1v_)]
theorem ubfe_ : FsOK Tryz.prog u45_ := ⟨ui9_, ubk7_, trivial⟩
noncomputable def usa_ : CSpec := ⟨⟨[0, 3], [.box (.val ZZ9), .own 5 (.int .u8) false]⟩, [((.exit 0), ⟨[0, 3], [.box (.val ZZ9), .own 5 (.int .u8) false]⟩)], (seg 3 19), utq_, []⟩
noncomputable def ubpy_ : Env := mkE u45_ [(0, usa_)] [] true
theorem uzx_ : EnvOK Tryz.prog true ubpy_ := enk ubfe_
noncomputable def upi_ : Code := u0_ Tryz.f193
theorem ubc8_ : CutOK Tryz.prog true Tryz.f193.ntmps usa_ (sub upi_ [1, 1, 0, 0]) :=
 lok (body := sub upi_ [1, 1, 0, 0, 0]) (n := 1) (l := []) uzx_ trivial
theorem uub_ : uo_ Tryz.prog 193 ∧ FunOK Tryz.prog 193 uny_ :=
 fnk (c := upi_) (l := [(usa_, sub upi_ [1, 1, 0, 0])]) uzx_ Tryz.func193 ⟨⟨by kernel_rfl, ubc8_⟩, trivial⟩
noncomputable def u1x_ : FSpec := ⟨[.box (.val ZZ9)], [.val (.slice .str)], uml_, true⟩
noncomputable def u1y_ : List (Nat × FSpec) := [(192, uja_), (193, uny_)]
theorem ubc9_ : FsOK Tryz.prog u1y_ := ⟨unx_, uub_, trivial⟩
noncomputable def uqd_ : CSpec := ⟨⟨[0, 3], [.box (.val ZZ9), .own 9 .str false]⟩, [((.exit 0), ⟨[0, 3], [.box (.val ZZ9), .own 9 .str false]⟩)], ([3] ++ seg 7 22), ur2_, []⟩
noncomputable def ubnk_ : Env := mkE u1y_ [(0, uqd_)] [] true
theorem ux2_ : EnvOK Tryz.prog true ubnk_ := enk ubc9_
noncomputable def unz_ : Code := u0_ Tryz.f190
theorem u98_ : CutOK Tryz.prog true Tryz.f190.ntmps uqd_ (sub unz_ [1, 1, 0, 0]) :=
 lok (body := sub unz_ [1, 1, 0, 0, 0]) (n := 1) (l := []) ux2_ trivial
theorem ubk8_ : uo_ Tryz.prog 190 ∧ FunOK Tryz.prog 190 u1x_ :=
 fnk (c := unz_) (l := [(uqd_, sub unz_ [1, 1, 0, 0])]) ux2_ Tryz.func190 ⟨⟨by kernel_rfl, u98_⟩, trivial⟩
noncomputable def u1z_ : FSpec := ⟨[.val (.int .u8), .val .bool], [.val .bool], uxt_, true⟩
noncomputable def ubff_ : List (Nat × FSpec) := []
theorem ubnl_ : FsOK Tryz.prog ubff_ := trivial
noncomputable def ubwj_ : Env := mkE ubff_ [] [] true
theorem ubpz_ : EnvOK Tryz.prog true ubwj_ := enk ubnl_
noncomputable def ubwk_ : Code := u0_ Tryz.f232
theorem ubfg_ : uo_ Tryz.prog 232 ∧ FunOK Tryz.prog 232 u1z_ :=
 fnk (c := ubwk_) (l := []) ubpz_ Tryz.func232 trivial
noncomputable def uuc_ : FSpec := ⟨[.box (.val ZZ9)], [.val ZZ8], ujv_, true⟩
noncomputable def uud_ : List (Nat × FSpec) := [(192, uja_), (193, uny_), (195, ug4_), (232, u1z_)]
theorem u3e_ : FsOK Tryz.prog uud_ := ⟨unx_, uub_, ui9_, ubfg_, trivial⟩
noncomputable def ukh_ : CSpec := ⟨⟨[0, 3], [.box (.val ZZ9), .val (.int .i64)]⟩, [((.exit 0), ⟨[0], [.box (.val ZZ9)]⟩)], (seg 9 35), ulm_, []⟩
noncomputable def ubda_ : Env := mkE uud_ [(0, ukh_)] [] true
theorem uq8_ : EnvOK Tryz.prog true ubda_ := enk u3e_
noncomputable def uia_ : Code := u0_ Tryz.f194
theorem u10_ : CutOK Tryz.prog true Tryz.f194.ntmps ukh_ (sub uia_ [1, 1, 0, 0]) :=
 lok (body := sub uia_ [1, 1, 0, 0, 0]) (n := 1) (l := []) uq8_ trivial
theorem u99_ : uo_ Tryz.prog 194 ∧ FunOK Tryz.prog 194 uuc_ :=
 fnk (c := uia_) (l := [(ukh_, sub uia_ [1, 1, 0, 0])]) uq8_ Tryz.func194 ⟨⟨by kernel_rfl, u10_⟩, trivial⟩
noncomputable def u46_ : FSpec := ⟨[.box (.val ZZ9)], [.tr (.pr (.val .str) (.pr (.val .str) (.pr (.val .str) (.pr (.val .str) (.pr (.own 234 ZZ8 true) (.val .str))))))], utt_, false⟩
noncomputable def u47_ : List (Nat × FSpec) := [(189, u43_), (190, u1x_), (191, um3_), (192, uja_), (193, uny_), (194, uuc_), (195, ug4_)]
theorem ubfh_ : FsOK Tryz.prog u47_ := ⟨ubni_, ubk8_, uq7_, unx_, uub_, u99_, ui9_, trivial⟩
noncomputable def usb_ : CSpec := ⟨⟨[0, 3, 40], [.box (.val ZZ9), .box (.pr (.val .str) (.pr (.val .str) (.pr (.val .str) (.pr (.val .str) (.pr (.own 234 ZZ8 true) (.val .str)))))), .val .bool]⟩, [(.normal, ⟨[0, 3], [.box (.val ZZ9), .box (.pr (.val .str) (.pr (.val .str) (.pr (.val .str) (.pr (.val .str) (.pr (.own 234 ZZ8 true) (.val .str))))))]⟩)], (seg 41 10), uns_, []⟩
noncomputable def usc_ : CSpec := ⟨⟨[0, 3, 5], [.box (.val ZZ9), .box (.pr (.val .str) (.pr (.val .str) (.pr (.val .str) (.pr (.val .str) (.pr (.own 234 ZZ8 true) (.val .str)))))), .val (.int .u8)]⟩, [((.exit 0), ⟨[0, 3], [.box (.val ZZ9), .box (.pr (.val .str) (.pr (.val .str) (.pr (.val .str) (.pr (.val .str) (.pr (.own 234 ZZ8 true) (.val .str))))))]⟩)], ([5] ++ seg 51 37), uts_, []⟩
noncomputable def usd_ : CSpec := ⟨⟨[0, 3, 97], [.box (.val ZZ9), .box (.pr (.val .str) (.pr (.val .str) (.pr (.val .str) (.pr (.val .str) (.pr (.own 234 ZZ8 true) (.val .str)))))), .val .bool]⟩, [(.normal, ⟨[0, 3], [.box (.val ZZ9), .box (.pr (.val .str) (.pr (.val .str) (.pr (.val .str) (.pr (.val .str) (.pr (.own 234 ZZ8 true) (.val .str))))))]⟩)], (seg 98 11), unt_, []⟩
noncomputable def ubp0_ : Env := mkE u47_ [(1, usb_), (2, usc_), (4, usd_)] [2, 8, 14, 132] false
theorem uj3_ : EnvOK Tryz.prog false ubp0_ := enk ubfh_
noncomputable def ubi_ : Code := u0_ Tryz.f145
theorem ubdb_ : CutOK Tryz.prog false Tryz.f145.ntmps usb_ (sub ubi_ [1, 1, 1, 1, 1, 0, 1]) :=
 brk (c := up7_ (sub ubi_ [1, 1, 1, 1, 1, 0, 1])) (x := sub ubi_ [1, 1, 1, 1, 1, 0, 1, 0]) (y := sub ubi_ [1, 1, 1, 1, 1, 0, 1, 1]) (n := 1) (lx := []) (ly := []) uj3_ trivial trivial
theorem ubdc_ : CutOK Tryz.prog false Tryz.f145.ntmps usc_ (sub ubi_ [1, 1, 1, 1, 1, 1, 0, 1, 0]) :=
 lok (body := sub ubi_ [1, 1, 1, 1, 1, 1, 0, 1, 0, 0]) (n := 3) (l := []) uj3_ trivial
theorem ubdd_ : CutOK Tryz.prog false Tryz.f145.ntmps usd_ (sub ubi_ [1, 1, 1, 1, 1, 1, 1, 0, 1]) :=
 brk (c := up7_ (sub ubi_ [1, 1, 1, 1, 1, 1, 1, 0, 1])) (x := sub ubi_ [1, 1, 1, 1, 1, 1, 1, 0, 1, 0]) (y := sub ubi_ [1, 1, 1, 1, 1, 1, 1, 0, 1, 1]) (n := 4) (lx := []) (ly := []) uj3_ trivial trivial
theorem ubnm_ : uo_ Tryz.prog 145 ∧ FunOK Tryz.prog 145 u46_ :=
 fnk (c := ubi_) (l := [(usb_, sub ubi_ [1, 1, 1, 1, 1, 0, 1]), (usc_, sub ubi_ [1, 1, 1, 1, 1, 1, 0, 1, 0]), (usd_, sub ubi_ [1, 1, 1, 1, 1, 1, 1, 0, 1])]) uj3_ Tryz.func145 ⟨⟨by kernel_rfl, ubdb_⟩, ⟨by kernel_rfl, ubdc_⟩, ⟨by kernel_rfl, ubdd_⟩, trivial⟩
noncomputable def ug5_ : FSpec := ⟨[.io 234 ZZ8, .val (.int .i64), .val (.int .i64), .hof false ZZ21 (.int .i64)], [], ubo_, false⟩
noncomputable def ug6_ : List (Nat × FSpec) := []
theorem um9_ : FsOK Tryz.prog ug6_ := trivial
noncomputable def udt_ : CSpec := ⟨⟨[0, 1, 3, 9], [.own 234 ZZ8 true, .val (.int .i64), .hof false ZZ21 (.int .i64), .val (.int .i64)]⟩, [((.exit 2), ⟨[0], [.own 234 ZZ8 true]⟩)], ([9] ++ seg 18 35), ud3_, []⟩
noncomputable def udu_ : CSpec := ⟨⟨[0, 1, 2, 3, 8], [.own 234 ZZ8 true, .val (.int .i64), .val (.int .i64), .hof false ZZ21 (.int .i64), .val (.int .i64)]⟩, [((.exit 0), ⟨[0], [.own 234 ZZ8 true]⟩)], ([8, 9] ++ seg 12 41), ud4_, []⟩
noncomputable def uqe_ : Env := mkE ug6_ [(2, udt_), (0, udu_)] [] false
theorem udp_ : EnvOK Tryz.prog false uqe_ := enk um9_
noncomputable def u9_ : Code := u0_ Tryz.f233
theorem umm_ : CutOK Tryz.prog false Tryz.f233.ntmps udt_ (sub u9_ [1, 0, 0, 1, 0, 0, 1, 0]) :=
 lok (body := sub u9_ [1, 0, 0, 1, 0, 0, 1, 0, 0]) (n := 3) (l := []) udp_ trivial
theorem umn_ : CutOK Tryz.prog false Tryz.f233.ntmps udu_ (sub u9_ [1, 0]) :=
 lok (body := sub u9_ [1, 0, 0]) (n := 1) (l := [(udt_, sub u9_ [1, 0, 0, 1, 0, 0, 1, 0])]) udp_ ⟨⟨by kernel_rfl, umm_⟩, trivial⟩
theorem upj_ : uo_ Tryz.prog 233 ∧ FunOK Tryz.prog 233 ug5_ :=
 fnk (c := u9_) (l := [(udu_, sub u9_ [1, 0])]) udp_ Tryz.func233 ⟨⟨by kernel_rfl, umn_⟩, trivial⟩
noncomputable def uij_ : FSpec := ⟨[.io 234 ZZ8, .val (.int .i64), .val (.int .i64), .val (.int .i64), .hof false ZZ21 (.int .i64)], [], ubn_, true⟩
noncomputable def uik_ : List (Nat × FSpec) := []
theorem uqf_ : FsOK Tryz.prog uik_ := trivial
noncomputable def uel_ : CSpec := ⟨⟨[0, 1, 2, 3, 10], [.own 234 ZZ8 true, .val (.int .i64), .val (.int .i64), .val (.int .i64), .val (.int .i64)]⟩, [((.exit 0), ⟨[0], [.own 234 ZZ8 true]⟩)], (seg 10 28), ue2_, []⟩
noncomputable def uue_ : Env := mkE uik_ [(0, uel_)] [] true
theorem uho_ : EnvOK Tryz.prog true uue_ := enk uqf_
noncomputable def udg_ : Code := u0_ Tryz.f273
theorem upk_ : CutOK Tryz.prog true Tryz.f273.ntmps uel_ (sub udg_ [1, 0]) :=
 lok (body := sub udg_ [1, 0, 0]) (n := 1) (l := []) uho_ trivial
theorem utg_ : uo_ Tryz.prog 273 ∧ FunOK Tryz.prog 273 uij_ :=
 fnk (c := udg_) (l := [(uel_, sub udg_ [1, 0])]) uho_ Tryz.func273 ⟨⟨by kernel_rfl, upk_⟩, trivial⟩
noncomputable def uki_ : FSpec := ⟨[.io 234 ZZ8, .val (.int .i64), .val (.int .i64), .val (.int .i64), .hof false ZZ21 (.int .i64)], [], ue0_, true⟩
noncomputable def ukj_ : List (Nat × FSpec) := [(273, uij_)]
theorem uth_ : FsOK Tryz.prog ukj_ := ⟨utg_, trivial⟩
noncomputable def ufp_ : CSpec := ⟨⟨[0, 2, 4, 10, 11], [.own 234 ZZ8 true, .val (.int .i64), .hof false ZZ21 (.int .i64), .val (.int .i64), .val (.int .i64)]⟩, [((.exit 0), ⟨[0, 10], [.own 234 ZZ8 true, .val (.int .i64)]⟩)], ([10, 11] ++ seg 18 32), uf2_, []⟩
noncomputable def ux3_ : Env := mkE ukj_ [(0, ufp_)] [] true
theorem ujb_ : EnvOK Tryz.prog true ux3_ := enk uth_
noncomputable def uec_ : Code := u0_ Tryz.f258
theorem use_ : CutOK Tryz.prog true Tryz.f258.ntmps ufp_ (sub uec_ [1, 1, 0, 0]) :=
 lok (body := sub uec_ [1, 1, 0, 0, 0]) (n := 1) (l := []) ujb_ trivial
theorem uwx_ : uo_ Tryz.prog 258 ∧ FunOK Tryz.prog 258 uki_ :=
 fnk (c := uec_) (l := [(ufp_, sub uec_ [1, 1, 0, 0])]) ujb_ Tryz.func258 ⟨⟨by kernel_rfl, use_⟩, trivial⟩
noncomputable def um_ (n : Nat) : FSpec := ⟨[.io 234 ZZ8, .val (.int .i64), .val (.int .i64), .val (.int .i64), .hof false ZZ21 (.int .i64)], [], ur_ n, false⟩
noncomputable def ujc_ : FSpec := ⟨[.io 234 ZZ8, .val (.int .i64), .val (.int .i64), .val (.int .i64), .hof false ZZ21 (.int .i64)], [], uck_, false⟩
noncomputable def ujd_ (n : Nat) : List (Nat × FSpec) := [(234, (um_ n)), (258, uki_)]
theorem uq9_ (n : Nat) (ih : uo_ Tryz.prog 234 ∧ FunOK Tryz.prog 234 (um_ n)) : FsOK Tryz.prog (ujd_ n) := ⟨ih, uwx_, trivial⟩
noncomputable def ue5_ (n : Nat) : CSpec := ⟨⟨[0, 1, 4, 10, 11], [.own 234 ZZ8 true, .val (.int .i64), .hof false ZZ21 (.int .i64), .val (.int .i64), .val (.int .i64)]⟩, [((.exit 0), ⟨[0, 10], [.own 234 ZZ8 true, .val (.int .i64)]⟩)], ([10, 11, 12] ++ seg 31 23), (ufa_ (ur_ n)), []⟩
noncomputable def ue6_ (n : Nat) : CSpec := ⟨⟨[0, 10, 13], [.own 234 ZZ8 true, .val (.int .i64), .val (.int .i64)]⟩, [((.exit 2), ⟨[0], [.own 234 ZZ8 true]⟩)], ([13] ++ seg 55 22), (ufb_ (ur_ n)), []⟩
noncomputable def ue7_ (n : Nat) : CSpec := ⟨⟨[0, 2, 4, 14, 15], [.own 234 ZZ8 true, .val (.int .i64), .hof false ZZ21 (.int .i64), .val (.int .i64), .val (.int .i64)]⟩, [((.exit 4), ⟨[0, 14], [.own 234 ZZ8 true, .val (.int .i64)]⟩)], ([14, 15, 16] ++ seg 83 24), (ufc_ (ur_ n)), []⟩
noncomputable def uem_ (n : Nat) : CSpec := ⟨⟨[0, 14, 17], [.own 234 ZZ8 true, .val (.int .i64), .val (.int .i64)]⟩, [((.exit 6), ⟨[0], [.own 234 ZZ8 true]⟩)], ([17] ++ seg 108 21), (ue3_ (ur_ n)), []⟩
noncomputable def uen_ (n : Nat) : CSpec := ⟨⟨[1, 2, 3, 18, 19, 140], [.val (.int .i64), .val (.int .i64), .val (.int .i64), .val (.int .i64), .val (.int .i64), .val .bool]⟩, [(.normal, ⟨[20, 21], [.val (.int .i64), .val (.int .i64)]⟩)], [20, 21, 141, 142, 143, 144, 145, 146], (uc3_ (ur_ n)), []⟩
noncomputable def ueo_ (n : Nat) : CSpec := ⟨⟨[0, 4, 20, 21, 22], [.own 234 ZZ8 true, .hof false ZZ21 (.int .i64), .val (.int .i64), .val (.int .i64), .val (.int .i64)]⟩, [((.exit 8), ⟨[0, 20], [.own 234 ZZ8 true, .val (.int .i64)]⟩)], ([20, 21, 23] ++ seg 149 26), (ue4_ (ur_ n)), []⟩
noncomputable def uep_ (n : Nat) : CSpec := ⟨⟨[0, 2, 4, 20, 24, 185], [.own 234 ZZ8 true, .val (.int .i64), .hof false ZZ21 (.int .i64), .val (.int .i64), .val (.int .i64), .val .bool]⟩, [(.normal, ⟨[0], [.own 234 ZZ8 true]⟩)], [186, 187, 188, 189, 190, 191], (uc4_ (ur_ n)), []⟩
noncomputable def ueq_ (n : Nat) : CSpec := ⟨⟨[0, 1, 4, 18, 20, 199], [.own 234 ZZ8 true, .val (.int .i64), .hof false ZZ21 (.int .i64), .val (.int .i64), .val (.int .i64), .val .bool]⟩, [(.normal, ⟨[0], [.own 234 ZZ8 true]⟩)], [200, 201, 202, 203, 204, 205], (uc5_ (ur_ n)), []⟩
noncomputable def uvj_ (n : Nat) : Env := mkE (ujd_ n) [(1, (ue5_ n)), (4, (ue6_ n)), (7, (ue7_ n)), (10, (uem_ n)), (12, (uen_ n)), (13, (ueo_ n)), (16, (uep_ n)), (17, (ueq_ n))] [] false
theorem u1_ (n : Nat) (ih : uo_ Tryz.prog 234 ∧ FunOK Tryz.prog 234 (um_ n)) : EnvOK Tryz.prog false (uvj_ n) := enk (uq9_ n ih)
noncomputable def ue_ : Code := u0_ Tryz.f234
theorem uqg_ (n : Nat) (ih : uo_ Tryz.prog 234 ∧ FunOK Tryz.prog 234 (um_ n)) : CutOK Tryz.prog false Tryz.f234.ntmps (ue5_ n) (sub ue_ [0, 1, 0, 1, 1, 0, 0]) :=
 lok (body := sub ue_ [0, 1, 0, 1, 1, 0, 0, 0]) (n := 2) (l := []) (u1_ n ih) trivial
theorem uqh_ (n : Nat) (ih : uo_ Tryz.prog 234 ∧ FunOK Tryz.prog 234 (um_ n)) : CutOK Tryz.prog false Tryz.f234.ntmps (ue6_ n) (sub ue_ [0, 1, 0, 1, 1, 1, 0, 1, 0]) :=
 lok (body := sub ue_ [0, 1, 0, 1, 1, 1, 0, 1, 0, 0]) (n := 5) (l := []) (u1_ n ih) trivial
theorem uqi_ (n : Nat) (ih : uo_ Tryz.prog 234 ∧ FunOK Tryz.prog 234 (um_ n)) : CutOK Tryz.prog false Tryz.f234.ntmps (ue7_ n) (sub ue_ [1, 0, 1, 0, 1, 1, 0, 0]) :=
 lok (body := sub ue_ [1, 0, 1, 0, 1, 1, 0, 0, 0]) (n := 8) (l := []) (u1_ n ih) trivial
theorem upl_ (n : Nat) (ih : uo_ Tryz.prog 234 ∧ FunOK Tryz.prog 234 (um_ n)) : CutOK Tryz.prog false Tryz.f234.ntmps (uem_ n) (sub ue_ [1, 0, 1, 0, 1, 1, 1, 0, 1, 0]) :=
 lok (body := sub ue_ [1, 0, 1, 0, 1, 1, 1, 0, 1, 0, 0]) (n := 11) (l := []) (u1_ n ih) trivial
theorem upm_ (n : Nat) (ih : uo_ Tryz.prog 234 ∧ FunOK Tryz.prog 234 (um_ n)) : CutOK Tryz.prog false Tryz.f234.ntmps (uen_ n) (sub ue_ [1, 1, 1, 1, 1, 0, 1]) :=
 brk (c := up7_ (sub ue_ [1, 1, 1, 1, 1, 0, 1])) (x := sub ue_ [1, 1, 1, 1, 1, 0, 1, 0]) (y := sub ue_ [1, 1, 1, 1, 1, 0, 1, 1]) (n := 12) (lx := []) (ly := []) (u1_ n ih) trivial trivial
theorem upn_ (n : Nat) (ih : uo_ Tryz.prog 234 ∧ FunOK Tryz.prog 234 (um_ n)) : CutOK Tryz.prog false Tryz.f234.ntmps (ueo_ n) (sub ue_ [1, 1, 1, 1, 1, 1, 1, 0, 0]) :=
 lok (body := sub ue_ [1, 1, 1, 1, 1, 1, 1, 0, 0, 0]) (n := 14) (l := []) (u1_ n ih) trivial
theorem upo_ (n : Nat) (ih : uo_ Tryz.prog 234 ∧ FunOK Tryz.prog 234 (um_ n)) : CutOK Tryz.prog false Tryz.f234.ntmps (uep_ n) (sub ue_ [1, 1, 1, 1, 1, 1, 1, 1, 1, 0, 1]) :=
 brk (c := up7_ (sub ue_ [1, 1, 1, 1, 1, 1, 1, 1, 1, 0, 1])) (x := sub ue_ [1, 1, 1, 1, 1, 1, 1, 1, 1, 0, 1, 0]) (y := sub ue_ [1, 1, 1, 1, 1, 1, 1, 1, 1, 0, 1, 1]) (n := 16) (lx := []) (ly := []) (u1_ n ih) trivial trivial
theorem upp_ (n : Nat) (ih : uo_ Tryz.prog 234 ∧ FunOK Tryz.prog 234 (um_ n)) : CutOK Tryz.prog false Tryz.f234.ntmps (ueq_ n) (sub ue_ [1, 1, 1, 1, 1, 1, 1, 1, 1, 1, 0, 1]) :=
 brk (c := up7_ (sub ue_ [1, 1, 1, 1, 1, 1, 1, 1, 1, 1, 0, 1])) (x := sub ue_ [1, 1, 1, 1, 1, 1, 1, 1, 1, 1, 0, 1, 0]) (y := sub ue_ [1, 1, 1, 1, 1, 1, 1, 1, 1, 1, 0, 1, 1]) (n := 17) (lx := []) (ly := []) (u1_ n ih) trivial trivial
theorem usf_ (n : Nat) (ih : uo_ Tryz.prog 234 ∧ FunOK Tryz.prog 234 (um_ n)) : uo_ Tryz.prog 234 ∧ FunOK Tryz.prog 234 (um_ (n + 1)) :=
 fnk (c := ue_) (l := [((ue5_ n), sub ue_ [0, 1, 0, 1, 1, 0, 0]), ((ue6_ n), sub ue_ [0, 1, 0, 1, 1, 1, 0, 1, 0]), ((ue7_ n), sub ue_ [1, 0, 1, 0, 1, 1, 0, 0]), ((uem_ n), sub ue_ [1, 0, 1, 0, 1, 1, 1, 0, 1, 0]), ((uen_ n), sub ue_ [1, 1, 1, 1, 1, 0, 1]), ((ueo_ n), sub ue_ [1, 1, 1, 1, 1, 1, 1, 0, 0]), ((uep_ n), sub ue_ [1, 1, 1, 1, 1, 1, 1, 1, 1, 0, 1]), ((ueq_ n), sub ue_ [1, 1, 1, 1, 1, 1, 1, 1, 1, 1, 0, 1])]) (u1_ n ih) Tryz.func234 ⟨⟨by kernel_rfl, (uqg_ n ih)⟩, ⟨by kernel_rfl, (uqh_ n ih)⟩, ⟨by kernel_rfl, (uqi_ n ih)⟩, ⟨by kernel_rfl, (upl_ n ih)⟩, ⟨by kernel_rfl, (upm_ n ih)⟩, ⟨by kernel_rfl, (upn_ n ih)⟩, ⟨by kernel_rfl, (upo_ n ih)⟩, ⟨by kernel_rfl, (upp_ n ih)⟩, trivial⟩
theorem usg_ : ∀ n, uo_ Tryz.prog 234 ∧ FunOK Tryz.prog 234 (um_ n) := fun n => Nat.rec ⟨⟨Tryz.f234, ue_, Tryz.func234, by kernel_rfl, by kernel_rfl⟩, fun w I v args bs _ _ _ r hr => by cases hr⟩ (fun n ih => usf_ n ih) n
theorem uuf_ : uo_ Tryz.prog 234 ∧ FunOK Tryz.prog 234 ujc_ := usg_ 100
noncomputable def ukk_ : FSpec := ⟨[.io 234 ZZ8, .val (.int .i64), .hof false ZZ21 (.int .i64)], [], ue1_, false⟩
noncomputable def ukl_ : List (Nat × FSpec) := [(233, ug5_), (234, ujc_)]
theorem uti_ : FsOK Tryz.prog ukl_ := ⟨upj_, uuf_, trivial⟩
noncomputable def ufq_ : CSpec := ⟨⟨[0, 1, 2, 6, 7, 8], [.own 234 ZZ8 true, .val (.int .i64), .hof false ZZ21 (.int .i64), .val (.int .i64), .val (.int .i64), .val (.int .i64)]⟩, [((.exit 0), ⟨[0, 7], [.own 234 ZZ8 true, .val (.int .i64)]⟩)], ([7, 8] ++ seg 11 12), uf3_, []⟩
noncomputable def ufr_ : CSpec := ⟨⟨[0, 1, 2, 6, 7, 8], [.own 234 ZZ8 true, .val (.int .i64), .hof false ZZ21 (.int .i64), .val (.int .i64), .val (.int .i64), .val (.int .i64)]⟩, [((.exit 4), ⟨[0, 7], [.own 234 ZZ8 true, .val (.int .i64)]⟩)], ([7, 8] ++ seg 33 16), uf4_, []⟩
noncomputable def ufs_ : CSpec := ⟨⟨[0, 1, 2, 6], [.own 234 ZZ8 true, .val (.int .i64), .hof false ZZ21 (.int .i64), .val (.int .i64)]⟩, [((.exit 2), ⟨[0], [.own 234 ZZ8 true]⟩)], ([6, 7, 8, 9] ++ seg 28 35), uf5_, []⟩
noncomputable def ux4_ : Env := mkE ukl_ [(0, ufq_), (4, ufr_), (2, ufs_)] [] false
theorem udh_ : EnvOK Tryz.prog false ux4_ := enk uti_
noncomputable def u7_ : Code := u0_ Tryz.f196
theorem ush_ : CutOK Tryz.prog false Tryz.f196.ntmps ufq_ (sub u7_ [1, 1, 0, 0]) :=
 lok (body := sub u7_ [1, 1, 0, 0, 0]) (n := 1) (l := []) udh_ trivial
theorem usi_ : CutOK Tryz.prog false Tryz.f196.ntmps ufr_ (sub u7_ [1, 1, 1, 1, 0, 0, 1, 0, 1, 0, 0]) :=
 lok (body := sub u7_ [1, 1, 1, 1, 0, 0, 1, 0, 1, 0, 0, 0]) (n := 5) (l := []) udh_ trivial
theorem usj_ : CutOK Tryz.prog false Tryz.f196.ntmps ufs_ (sub u7_ [1, 1, 1, 1, 0]) :=
 lok (body := sub u7_ [1, 1, 1, 1, 0, 0]) (n := 3) (l := [(ufr_, sub u7_ [1, 1, 1, 1, 0, 0, 1, 0, 1, 0, 0])]) udh_ ⟨⟨by kernel_rfl, usi_⟩, trivial⟩
theorem uwy_ : uo_ Tryz.prog 196 ∧ FunOK Tryz.prog 196 ukk_ :=
 fnk (c := u7_) (l := [(ufq_, sub u7_ [1, 1, 0, 0]), (ufs_, sub u7_ [1, 1, 1, 1, 0])]) udh_ Tryz.func196 ⟨⟨by kernel_rfl, ush_⟩, ⟨by kernel_rfl, usj_⟩, trivial⟩
noncomputable def ujs_ : FSpec := ⟨[.io 234 ZZ8, .hof false ZZ21 (.int .i64)], [], ueh_, false⟩
noncomputable def ujt_ : List (Nat × FSpec) := [(196, ukk_)]
theorem usk_ : FsOK Tryz.prog ujt_ := ⟨uwy_, trivial⟩
noncomputable def uwz_ : Env := mkE ujt_ [] [] false
theorem utj_ : EnvOK Tryz.prog false uwz_ := enk usk_
noncomputable def uw0_ : Code := u0_ Tryz.f146
theorem uvk_ : uo_ Tryz.prog 146 ∧ FunOK Tryz.prog 146 ujs_ :=
 fnk (c := uw0_) (l := []) utj_ Tryz.func146 trivial
noncomputable def u48_ : FSpec := ⟨[.val .str], [.val .bool], uke_, true⟩
noncomputable def u49_ : List (Nat × FSpec) := []
theorem ubfi_ : FsOK Tryz.prog u49_ := trivial
noncomputable def ubp1_ : Env := mkE u49_ [] [] true
theorem ubh5_ : EnvOK Tryz.prog true ubp1_ := enk ubfi_
noncomputable def ubp2_ : Code := u0_ Tryz.f71
theorem ubnn_ : uo_ Tryz.prog 71 ∧ FunOK Tryz.prog 71 u48_ :=
 fnk (c := ubp2_) (l := []) ubh5_ Tryz.func71 trivial
noncomputable def ufl_ : FSpec := ⟨[.val .str, .val .str], [.val (.int .i64)], ucc_, true⟩
noncomputable def uzy_ : List (Nat × FSpec) := [(71, u48_)]
theorem ubaa_ : FsOK Tryz.prog uzy_ := ⟨ubnn_, trivial⟩
noncomputable def ubk9_ : Env := mkE uzy_ [] [] true
theorem ubde_ : EnvOK Tryz.prog true ubk9_ := enk ubaa_
noncomputable def ubla_ : Code := u0_ Tryz.f34
theorem uhf_ : uo_ Tryz.prog 34 ∧ FunOK Tryz.prog 34 ufl_ :=
 fnk (c := ubla_) (l := []) ubde_ Tryz.func34 trivial
noncomputable def ubkb_ : FSpec := ⟨[.val ZZ8, .val ZZ8], [.val (.int .i64)], u9q_, true⟩
noncomputable def ubkc_ : List (Nat × FSpec) := [(34, ufl_)]
theorem ubp3_ : FsOK Tryz.prog ubkc_ := ⟨uhf_, trivial⟩
noncomputable def ubyy_ : Env := mkE ubkc_ [] [] true
theorem ubsc_ : EnvOK Tryz.prog true ubyy_ := enk ubp3_
noncomputable def ubyz_ : Code := u0_ Tryz.f147
theorem ubwl_ : uo_ Tryz.prog 147 ∧ FunOK Tryz.prog 147 ubkb_ :=
 fnk (c := ubyz_) (l := []) ubsc_ Tryz.func147 trivial
noncomputable def ubfj_ : FSpec := ⟨[], [.val (.arr 5 ZZ15)], ubm8_, true⟩
noncomputable def ubry_ : List (Nat × FSpec) := []
theorem ubur_ : FsOK Tryz.prog ubry_ := trivial
noncomputable def ub2c_ : Env := mkE ubry_ [] [] true
theorem ubwm_ : EnvOK Tryz.prog true ub2c_ := enk ubur_
noncomputable def ub2d_ : Code := u0_ Tryz.f236
theorem ubrz_ : uo_ Tryz.prog 236 ∧ FunOK Tryz.prog 236 ubfj_ :=
 fnk (c := ub2d_) (l := []) ubwm_ Tryz.func236 trivial
noncomputable def ubr0_ : FSpec := ⟨[.val .str], [.val (.int .i64)], ubm9_, true⟩
noncomputable def ubr1_ : List (Nat × FSpec) := [(236, ubfj_)]
theorem ubus_ : FsOK Tryz.prog ubr1_ := ⟨ubrz_, trivial⟩
noncomputable def ubab_ : CSpec := ⟨⟨[0, 5, 6], [.val .str, .val (.arr 5 ZZ15), .val (.int .i64)]⟩, [((.exit 0), ⟨[], []⟩), (.ret, ⟨[2], [.val (.int .i64)]⟩)], ([2, 3, 4] ++ seg 6 10), ubew_, []⟩
noncomputable def ub2e_ : Env := mkE ubr1_ [(0, ubab_)] [] true
theorem ubkd_ : EnvOK Tryz.prog true ub2e_ := enk ubus_
noncomputable def ubac_ : Code := u0_ Tryz.f235
theorem ubsd_ : CutOK Tryz.prog true Tryz.f235.ntmps ubab_ (sub ubac_ [1, 0, 1, 0]) :=
 lok (body := sub ubac_ [1, 0, 1, 0, 0]) (n := 1) (l := []) ubkd_ trivial
theorem ub0p_ : uo_ Tryz.prog 235 ∧ FunOK Tryz.prog 235 ubr0_ :=
 fnk (c := ubac_) (l := [(ubab_, sub ubac_ [1, 0, 1, 0])]) ubkd_ Tryz.func235 ⟨⟨by kernel_rfl, ubsd_⟩, trivial⟩
noncomputable def ublb_ : FSpec := ⟨[.val .str], [.val ZZ15, .val (.int .i64)], ubna_, true⟩
noncomputable def ubut_ : List (Nat × FSpec) := [(235, ubr0_), (236, ubfj_)]
theorem ubwn_ : FsOK Tryz.prog ubut_ := ⟨ub0p_, ubrz_, trivial⟩
noncomputable def ub4l_ : Env := mkE ubut_ [] [] true
theorem uby0_ : EnvOK Tryz.prog true ub4l_ := enk ubwn_
noncomputable def ub4m_ : Code := u0_ Tryz.f197
theorem ubuu_ : uo_ Tryz.prog 197 ∧ FunOK Tryz.prog 197 ublb_ :=
 fnk (c := ub4m_) (l := []) uby0_ Tryz.func197 trivial
noncomputable def ubuv_ : FSpec := ⟨[.val (.agg ZZ10)], [.val .bool], ubtp_, true⟩
noncomputable def ubuw_ : List (Nat × FSpec) := []
theorem ubwo_ : FsOK Tryz.prog ubuw_ := trivial
noncomputable def ubfk_ : CSpec := ⟨⟨[15, 16, 17], [.own 9 .str false, .val (.int .i64), .val (.int .i64)]⟩, [((.exit 0), ⟨[], []⟩), (.ret, ⟨[2], [.val .bool]⟩)], ([2, 4] ++ seg 17 8), ubk1_, []⟩
noncomputable def ubfl_ : CSpec := ⟨⟨[26, 27, 28], [.val (.slice ZZ8), .val (.int .i64), .val (.int .i64)]⟩, [((.exit 2), ⟨[], []⟩), (.ret, ⟨[2], [.val .bool]⟩)], ([2, 6] ++ seg 28 15), ubk2_, []⟩
noncomputable def ub4n_ : Env := mkE ubuw_ [(0, ubfk_), (3, ubfl_)] [] true
theorem ubad_ : EnvOK Tryz.prog true ub4n_ := enk ubwo_
noncomputable def uw1_ : Code := u0_ Tryz.f198
theorem ubux_ : CutOK Tryz.prog true Tryz.f198.ntmps ubfk_ (sub uw1_ [1, 0, 1, 0]) :=
 lok (body := sub uw1_ [1, 0, 1, 0, 0]) (n := 1) (l := []) ubad_ trivial
theorem ubuy_ : CutOK Tryz.prog true Tryz.f198.ntmps ubfl_ (sub uw1_ [1, 1, 0, 1, 0]) :=
 lok (body := sub uw1_ [1, 1, 0, 1, 0, 0]) (n := 4) (l := []) ubad_ trivial
theorem ub2f_ : uo_ Tryz.prog 198 ∧ FunOK Tryz.prog 198 ubuv_ :=
 fnk (c := uw1_) (l := [(ubfk_, sub uw1_ [1, 0, 1, 0]), (ubfl_, sub uw1_ [1, 1, 0, 1, 0])]) ubad_ Tryz.func198 ⟨⟨by kernel_rfl, ubux_⟩, ⟨by kernel_rfl, ubuy_⟩, trivial⟩
noncomputable def u11_ : FSpec := ⟨[.val .str], [.val (.slice .str)], usw_, true⟩
noncomputable def ubfm_ : List (Nat × FSpec) := [(216, u1t_)]
theorem ubno_ : FsOK Tryz.prog ubfm_ := ⟨ube7_, trivial⟩
noncomputable def ubwp_ : Env := mkE ubfm_ [] [] true
theorem ubp4_ : EnvOK Tryz.prog true ubwp_ := enk ubno_
noncomputable def ubwq_ : Code := u0_ Tryz.f200
theorem ubfn_ : uo_ Tryz.prog 200 ∧ FunOK Tryz.prog 200 u11_ :=
 fnk (c := ubwq_) (l := []) ubp4_ Tryz.func200 trivial
noncomputable def ubb8_ : FSpec := ⟨[.val (.slice .str), .val .bool], [.val .bool], utu_, true⟩
noncomputable def ubb9_ : List (Nat × FSpec) := []
theorem ublc_ : FsOK Tryz.prog ubb9_ := trivial
noncomputable def uw2_ : CSpec := ⟨⟨[1, 7, 8, 9], [.val .bool, .val (.slice .str), .val (.int .i64), .val (.int .i64)]⟩, [((.exit 0), ⟨[], []⟩), (.ret, ⟨[4], [.val .bool]⟩)], ([4, 6] ++ seg 9 18), uyz_, []⟩
noncomputable def ubuz_ : Env := mkE ubb9_ [(0, uw2_)] [] true
theorem u5a_ : EnvOK Tryz.prog true ubuz_ := enk ublc_
noncomputable def uug_ : Code := u0_ Tryz.f199
theorem ubh6_ : CutOK Tryz.prog true Tryz.f199.ntmps uw2_ (sub uug_ [1, 0, 1, 0]) :=
 lok (body := sub uug_ [1, 0, 1, 0, 0]) (n := 1) (l := []) u5a_ trivial
theorem ubse_ : uo_ Tryz.prog 199 ∧ FunOK Tryz.prog 199 ubb8_ :=
 fnk (c := uug_) (l := [(uw2_, sub uug_ [1, 0, 1, 0])]) u5a_ Tryz.func199 ⟨⟨by kernel_rfl, ubh6_⟩, trivial⟩
noncomputable def uzz_ : FSpec := ⟨[.val .str], [.val .bool], upc_, true⟩
noncomputable def uz0_ : List (Nat × FSpec) := [(232, u1z_)]
theorem ubae_ : FsOK Tryz.prog uz0_ := ⟨ubfg_, trivial⟩
noncomputable def uoo_ : CSpec := ⟨⟨[0, 5, 6], [.val .str, .val (.int .i64), .val (.int .i64)]⟩, [((.exit 0), ⟨[], []⟩), (.ret, ⟨[2], [.val .bool]⟩)], ([2, 3] ++ seg 6 11), up8_, []⟩
noncomputable def ubld_ : Env := mkE uz0_ [(0, uoo_)] [] true
theorem uvu_ : EnvOK Tryz.prog true ubld_ := enk ubae_
noncomputable def ulz_ : Code := u0_ Tryz.f237
theorem u7t_ : CutOK Tryz.prog true Tryz.f237.ntmps uoo_ (sub ulz_ [1, 0, 1, 0]) :=
 lok (body := sub ulz_ [1, 0, 1, 0, 0]) (n := 1) (l := []) uvu_ trivial
theorem ubh7_ : uo_ Tryz.prog 237 ∧ FunOK Tryz.prog 237 uzz_ :=
 fnk (c := ulz_) (l := [(uoo_, sub ulz_ [1, 0, 1, 0])]) uvu_ Tryz.func237 ⟨⟨by kernel_rfl, u7t_⟩, trivial⟩
noncomputable def uvv_ : FSpec := ⟨[.val (.slice ZZ8)], [.val (.int .i64)], uln_, true⟩
noncomputable def uvw_ : List (Nat × FSpec) := [(237, uzz_)]
theorem u6b_ : FsOK Tryz.prog uvw_ := ⟨ubh7_, trivial⟩
noncomputable def ul0_ : CSpec := ⟨⟨[0, 5, 6, 7], [.val (.slice ZZ8), .val (.slice ZZ8), .val (.int .i64), .val (.int .i64)]⟩, [((.exit 0), ⟨[], []⟩), (.ret, ⟨[2], [.val (.int .i64)]⟩)], ([2, 3, 4] ++ seg 7 29), um4_, []⟩
noncomputable def ubfo_ : Env := mkE uvw_ [(0, ul0_)] [] true
theorem us0_ : EnvOK Tryz.prog true ubfo_ := enk u6b_
noncomputable def uje_ : Code := u0_ Tryz.f201
theorem u3f_ : CutOK Tryz.prog true Tryz.f201.ntmps ul0_ (sub uje_ [1, 0, 1, 0]) :=
 lok (body := sub uje_ [1, 0, 1, 0, 0]) (n := 1) (l := []) us0_ trivial
theorem ubdf_ : uo_ Tryz.prog 201 ∧ FunOK Tryz.prog 201 uvv_ :=
 fnk (c := uje_) (l := [(ul0_, sub uje_ [1, 0, 1, 0])]) us0_ Tryz.func201 ⟨⟨by kernel_rfl, u3f_⟩, trivial⟩
noncomputable def ubke_ : FSpec := ⟨[.val .str], [.val .bool], u1g_, true⟩
noncomputable def ubkf_ : List (Nat × FSpec) := []
theorem ubp5_ : FsOK Tryz.prog ubkf_ := trivial
noncomputable def u12_ : CSpec := ⟨⟨[0, 5, 6], [.val .str, .val (.int .i64), .val (.int .i64)]⟩, [((.exit 0), ⟨[], []⟩), (.ret, ⟨[2], [.val .bool]⟩)], ([2, 3] ++ seg 6 14), u57_, []⟩
noncomputable def uby1_ : Env := mkE ubkf_ [(0, u12_)] [] true
theorem ubca_ : EnvOK Tryz.prog true uby1_ := enk ubp5_
noncomputable def u0w_ : Code := u0_ Tryz.f202
theorem ubnp_ : CutOK Tryz.prog true Tryz.f202.ntmps u12_ (sub u0w_ [1, 0, 1, 0]) :=
 lok (body := sub u0w_ [1, 0, 1, 0, 0]) (n := 1) (l := []) ubca_ trivial
theorem ubwr_ : uo_ Tryz.prog 202 ∧ FunOK Tryz.prog 202 ubke_ :=
 fnk (c := u0w_) (l := [(u12_, sub u0w_ [1, 0, 1, 0])]) ubca_ Tryz.func202 ⟨⟨by kernel_rfl, ubnp_⟩, trivial⟩
noncomputable def ubfp_ : FSpec := ⟨[.val (.agg ZZ10)], [.val (.int .i64)], ubey_, true⟩
noncomputable def ubr2_ : List (Nat × FSpec) := [(111, uf9_), (197, ublb_), (198, ubuv_), (199, ubb8_), (200, u11_), (201, uvv_), (202, ubke_)]
theorem ubu0_ : FsOK Tryz.prog ubr2_ := ⟨uhx_, ubuu_, ub2f_, ubse_, ubfn_, ubdf_, ubwr_, trivial⟩
noncomputable def ubaf_ : CSpec := ⟨⟨[75, 76, 77], [.own 9 .str false, .val (.int .i64), .val (.int .i64)]⟩, [((.exit 1), ⟨[], []⟩), (.ret, ⟨[2], [.val (.int .i64)]⟩)], [2, 7, 77, 78, 79, 80, 81, 82, 83], ubex_, []⟩
noncomputable def u6c_ : CSpec := ⟨⟨[85, 86, 87], [.val (.slice ZZ8), .val (.int .i64), .val (.int .i64)]⟩, [((.exit 3), ⟨[], []⟩), (.ret, ⟨[2], [.val (.int .i64)]⟩)], ([2, 9] ++ seg 87 8), u9r_, []⟩
noncomputable def ub2g_ : Env := mkE ubr2_ [(7, ubaf_), (10, u6c_)] [] true
theorem u6d_ : EnvOK Tryz.prog true ub2g_ := enk ubu0_
noncomputable def usl_ : Code := u0_ Tryz.f148
theorem ubsf_ : CutOK Tryz.prog true Tryz.f148.ntmps ubaf_ (sub usl_ [1, 1, 1, 1, 1, 0, 1, 0]) :=
 lok (body := sub usl_ [1, 1, 1, 1, 1, 0, 1, 0, 0]) (n := 8) (l := []) u6d_ trivial
theorem ubp6_ : CutOK Tryz.prog true Tryz.f148.ntmps u6c_ (sub usl_ [1, 1, 1, 1, 1, 1, 0, 1, 0]) :=
 lok (body := sub usl_ [1, 1, 1, 1, 1, 1, 0, 1, 0, 0]) (n := 11) (l := []) u6d_ trivial
theorem ubr3_ : uo_ Tryz.prog 148 ∧ FunOK Tryz.prog 148 ubfp_ :=
 fnk (c := usl_) (l := [(ubaf_, sub usl_ [1, 1, 1, 1, 1, 0, 1, 0]), (u6c_, sub usl_ [1, 1, 1, 1, 1, 1, 0, 1, 0])]) u6d_ Tryz.func148 ⟨⟨by kernel_rfl, ubsf_⟩, ⟨by kernel_rfl, ubp6_⟩, trivial⟩
noncomputable def ubnq_ : FSpec := ⟨[.val (.int .u8)], [.val .bool], u7k_, true⟩
noncomputable def ubnr_ : List (Nat × FSpec) := []
theorem ubsg_ : FsOK Tryz.prog ubnr_ := trivial
noncomputable def ub0q_ : Env := mkE ubnr_ [] [] true
theorem ubu1_ : EnvOK Tryz.prog true ub0q_ := enk ubsg_
noncomputable def ub0r_ : Code := u0_ Tryz.f238
theorem uby2_ : uo_ Tryz.prog 238 ∧ FunOK Tryz.prog 238 ubnq_ :=
 fnk (c := ub0r_) (l := []) ubu1_ Tryz.func238 trivial
noncomputable def udv_ : FSpec := ⟨[.bld 5 false, .val (.int .u8)], [.any], ubf_, false⟩
noncomputable def uop_ : List (Nat × FSpec) := [(176, uhy_)]
theorem ux5_ : FsOK Tryz.prog uop_ := ⟨uom_, trivial⟩
noncomputable def u3g_ : Env := mkE uop_ [] [] false
theorem uy4_ : EnvOK Tryz.prog false u3g_ := enk ux5_
noncomputable def u3h_ : Code := u0_ Tryz.f121
theorem ufg_ : uo_ Tryz.prog 121 ∧ FunOK Tryz.prog 121 udv_ :=
 fnk (c := u3h_) (l := []) uy4_ Tryz.func121 trivial
noncomputable def ubns_ : FSpec := ⟨[.val .str], [.val .str], ubhw_, false⟩
noncomputable def ubnt_ : List (Nat × FSpec) := [(121, udv_), (122, ubt_), (238, ubnq_)]
theorem ubsh_ : FsOK Tryz.prog ubnt_ := ⟨ufg_, ucf_, uby2_, trivial⟩
noncomputable def u6e_ : CSpec := ⟨⟨[0, 3, 6, 7], [.val .str, .bld 5 false, .val (.int .i64), .val (.int .i64)]⟩, [((.exit 0), ⟨[3], [.bld 5 false]⟩)], ([4] ++ seg 7 26), u9s_, []⟩
noncomputable def ub0s_ : Env := mkE ubnt_ [(0, u6e_)] [] false
theorem ubfq_ : EnvOK Tryz.prog false ub0s_ := enk ubsh_
noncomputable def u5b_ : Code := u0_ Tryz.f204
theorem ubp7_ : CutOK Tryz.prog false Tryz.f204.ntmps u6e_ (sub u5b_ [1, 1, 0, 1, 0]) :=
 lok (body := sub u5b_ [1, 1, 0, 1, 0, 0]) (n := 1) (l := []) ubfq_ trivial
theorem uby3_ : uo_ Tryz.prog 204 ∧ FunOK Tryz.prog 204 ubns_ :=
 fnk (c := u5b_) (l := [(u6e_, sub u5b_ [1, 1, 0, 1, 0])]) ubfq_ Tryz.func204 ⟨⟨by kernel_rfl, ubp7_⟩, trivial⟩
noncomputable def uy5_ : FSpec := ⟨[.val (.agg ZZ10)], [.val (.agg ZZ10)], utv_, false⟩
noncomputable def ubcb_ : List (Nat × FSpec) := [(197, ublb_), (203, ube8_), (204, ubns_)]
theorem uble_ : FsOK Tryz.prog ubcb_ := ⟨ubuu_, ubrx_, uby3_, trivial⟩
noncomputable def uw3_ : CSpec := ⟨⟨[1, 12], [.box (.val ZZ10), .val .bool]⟩, [(.normal, ⟨[1], [.box (.val ZZ10)]⟩)], [13, 14, 15, 16, 17, 18, 19, 20], urn_, []⟩
noncomputable def ubu2_ : Env := mkE ubcb_ [(0, uw3_)] [] false
theorem u5c_ : EnvOK Tryz.prog false ubu2_ := enk uble_
noncomputable def ukm_ : Code := u0_ Tryz.f149
theorem ubh8_ : CutOK Tryz.prog false Tryz.f149.ntmps uw3_ (sub ukm_ [1, 1, 0, 1]) :=
 brk (c := up7_ (sub ukm_ [1, 1, 0, 1])) (x := sub ukm_ [1, 1, 0, 1, 0]) (y := sub ukm_ [1, 1, 0, 1, 1]) (n := 0) (lx := []) (ly := []) u5c_ trivial trivial
theorem ubcc_ : uo_ Tryz.prog 149 ∧ FunOK Tryz.prog 149 uy5_ :=
 fnk (c := ukm_) (l := [(uw3_, sub ukm_ [1, 1, 0, 1])]) u5c_ Tryz.func149 ⟨⟨by kernel_rfl, ubh8_⟩, trivial⟩
noncomputable def ubu3_ : FSpec := ⟨[.val .str], [.val (.agg ZZ10), .val (.int .i64), .val (.int .i64)], ubtq_, false⟩
noncomputable def ubu4_ : List (Nat × FSpec) := [(145, u46_), (146, ujs_), (147, ubkb_), (148, ubfp_), (149, uy5_)]
theorem ubws_ : FsOK Tryz.prog ubu4_ := ⟨ubnm_, uvk_, ubwl_, ubr3_, ubcc_, trivial⟩
noncomputable def ubfr_ : CSpec := ⟨⟨[2, 6, 7], [.box (.val ZZ10), .box (.pr (.val .str) (.pr (.val .str) (.pr (.val .str) (.pr (.val .str) (.pr (.own 234 ZZ8 true) (.val .str)))))), .val (.int .i64)]⟩, [((.exit 0), ⟨[2, 6], [.box (.val ZZ10), .box (.pr (.val .str) (.pr (.val .str) (.pr (.val .str) (.pr (.val .str) (.pr (.own 234 ZZ8 true) (.val .str))))))]⟩), (.ret, ⟨[2, 3, 4], [.box (.val ZZ10), .val (.int .i64), .val (.int .i64)]⟩)], ([3, 4, 7] ++ seg 31 22), ubk3_, []⟩
noncomputable def ub4o_ : Env := mkE ubu4_ [(2, ubfr_)] [] false
theorem ubnu_ : EnvOK Tryz.prog false ub4o_ := enk ubws_
noncomputable def ubhx_ : Code := u0_ Tryz.f95
theorem ubu5_ : CutOK Tryz.prog false Tryz.f95.ntmps ubfr_ (sub ubhx_ [1, 1, 1, 1, 1, 1, 0, 1, 0]) :=
 lok (body := sub ubhx_ [1, 1, 1, 1, 1, 1, 0, 1, 0, 0]) (n := 3) (l := []) ubnu_ trivial
theorem ub2h_ : uo_ Tryz.prog 95 ∧ FunOK Tryz.prog 95 ubu3_ :=
 fnk (c := ubhx_) (l := [(ubfr_, sub ubhx_ [1, 1, 1, 1, 1, 1, 0, 1, 0])]) ubnu_ Tryz.func95 ⟨⟨by kernel_rfl, ubu5_⟩, trivial⟩
noncomputable def ub0_ : FSpec := ⟨[.bld 5 false, .val .str], [.val (.int .i64), .any], ubk_, false⟩
noncomputable def umo_ : List (Nat × FSpec) := [(176, uhy_)]
theorem uvl_ : FsOK Tryz.prog umo_ := ⟨uom_, trivial⟩
noncomputable def u0x_ : Env := mkE umo_ [] [] false
theorem uw4_ : EnvOK Tryz.prog false u0x_ := enk uvl_
noncomputable def u0y_ : Code := u0_ Tryz.f120
theorem uct_ : uo_ Tryz.prog 120 ∧ FunOK Tryz.prog 120 ub0_ :=
 fnk (c := u0y_) (l := []) uw4_ Tryz.func120 trivial
noncomputable def u6f_ : FSpec := ⟨[.val .str], [.val .str], uwq_, false⟩
noncomputable def ubkg_ : List (Nat × FSpec) := [(111, uf9_), (120, ub0_), (121, udv_), (122, ubt_), (230, u1u_)]
theorem ubp8_ : FsOK Tryz.prog ubkg_ := ⟨uhx_, uct_, ufg_, ucf_, ubfc_, trivial⟩
noncomputable def u13_ : CSpec := ⟨⟨[0, 3, 7, 8], [.val .str, .bld 5 false, .val (.int .i64), .val (.int .i64)]⟩, [((.exit 0), ⟨[3], [.bld 5 false]⟩)], ([4, 5] ++ seg 8 39), u58_, []⟩
noncomputable def uby4_ : Env := mkE ubkg_ [(0, u13_)] [] false
theorem ubcd_ : EnvOK Tryz.prog false uby4_ := enk ubp8_
noncomputable def u0z_ : Code := u0_ Tryz.f206
theorem ubnv_ : CutOK Tryz.prog false Tryz.f206.ntmps u13_ (sub u0z_ [1, 1, 0, 1, 0]) :=
 lok (body := sub u0z_ [1, 1, 0, 1, 0, 0]) (n := 1) (l := []) ubcd_ trivial
theorem ubkh_ : uo_ Tryz.prog 206 ∧ FunOK Tryz.prog 206 u6f_ :=
 fnk (c := u0z_) (l := [(u13_, sub u0z_ [1, 1, 0, 1, 0])]) ubcd_ Tryz.func206 ⟨⟨by kernel_rfl, ubnv_⟩, trivial⟩
noncomputable def ubu6_ : FSpec := ⟨[.val .str], [.val .str], ubtr_, false⟩
noncomputable def ubu7_ : List (Nat × FSpec) := [(191, um3_), (200, u11_), (206, u6f_)]
theorem ubwt_ : FsOK Tryz.prog ubu7_ := ⟨uq7_, ubfn_, ubkh_, trivial⟩
noncomputable def ubfs_ : CSpec := ⟨⟨[3, 7, 8, 9], [.own 9 .str false, .val (.slice .str), .val (.int .i64), .val (.int .i64)]⟩, [((.exit 0), ⟨[3], [.own 9 .str false]⟩)], ([3, 5] ++ seg 9 10), ubk4_, []⟩
noncomputable def ub4p_ : Env := mkE ubu7_ [(0, ubfs_)] [] false
theorem ubnw_ : EnvOK Tryz.prog false ub4p_ := enk ubwt_
noncomputable def ubhy_ : Code := u0_ Tryz.f205
theorem ubu8_ : CutOK Tryz.prog false Tryz.f205.ntmps ubfs_ (sub ubhy_ [1, 1, 0, 1, 0]) :=
 lok (body := sub ubhy_ [1, 1, 0, 1, 0, 0]) (n := 1) (l := []) ubnw_ trivial
theorem ub2i_ : uo_ Tryz.prog 205 ∧ FunOK Tryz.prog 205 ubu6_ :=
 fnk (c := ubhy_) (l := [(ubfs_, sub ubhy_ [1, 1, 0, 1, 0])]) ubnw_ Tryz.func205 ⟨⟨by kernel_rfl, ubu8_⟩, trivial⟩
noncomputable def ubki_ : FSpec := ⟨[.val (.agg ZZ10)], [.val .str], u9t_, false⟩
noncomputable def ubkj_ : List (Nat × FSpec) := [(205, ubu6_), (206, u6f_)]
theorem ubp9_ : FsOK Tryz.prog ubkj_ := ⟨ub2i_, ubkh_, trivial⟩
noncomputable def uby5_ : Env := mkE ubkj_ [] [] false
theorem ubsi_ : EnvOK Tryz.prog false uby5_ := enk ubp9_
noncomputable def uby6_ : Code := u0_ Tryz.f150
theorem ubwu_ : uo_ Tryz.prog 150 ∧ FunOK Tryz.prog 150 ubki_ :=
 fnk (c := uby6_) (l := []) ubsi_ Tryz.func150 trivial
noncomputable def ubxx_ : FSpec := ⟨[.val (.agg ZZ10)], [.val .str, .val (.int .i64)], ubyu_, false⟩
noncomputable def ubxy_ : List (Nat × FSpec) := [(148, ubfp_), (149, uy5_), (150, ubki_)]
theorem uby7_ : FsOK Tryz.prog ubxy_ := ⟨ubr3_, ubcc_, ubwu_, trivial⟩
noncomputable def ub6s_ : Env := mkE ubxy_ [] [] false
theorem ub0t_ : EnvOK Tryz.prog false ub6s_ := enk uby7_
noncomputable def ub6t_ : Code := u0_ Tryz.f96
theorem ub4q_ : uo_ Tryz.prog 96 ∧ FunOK Tryz.prog 96 ubxx_ :=
 fnk (c := ub6t_) (l := []) ub0t_ Tryz.func96 trivial
noncomputable def ubce_ : FSpec := ⟨[.val .str], [.val .bool], u0r_, false⟩
noncomputable def ubcf_ : List (Nat × FSpec) := [(95, ubu3_), (96, ubxx_)]
theorem ublf_ : FsOK Tryz.prog ubcf_ := ⟨ub2h_, ub4q_, trivial⟩
noncomputable def ubu9_ : Env := mkE ubcf_ [] [] false
theorem ubnx_ : EnvOK Tryz.prog false ubu9_ := enk ublf_
noncomputable def ubva_ : Code := u0_ Tryz.f50
theorem ubsj_ : uo_ Tryz.prog 50 ∧ FunOK Tryz.prog 50 ubce_ :=
 fnk (c := ubva_) (l := []) ubnx_ Tryz.func50 trivial
noncomputable def udi_ : FSpec := ⟨[.val .str, .val (.int .i64), .hof false (.int .u8) .bool], [.val (.int .i64)], uc6_, false⟩
noncomputable def ubny_ : List (Nat × FSpec) := []
theorem ubsk_ : FsOK Tryz.prog ubny_ := trivial
noncomputable def u6g_ : CSpec := ⟨⟨[0, 1, 2, 7], [.val .str, .val (.int .i64), .hof false (.int .u8) .bool, .val (.int .i64)]⟩, [((.exit 0), ⟨[7], [.val (.int .i64)]⟩)], (seg 7 18), u9u_, []⟩
noncomputable def ub0u_ : Env := mkE ubny_ [(0, u6g_)] [] false
theorem ubft_ : EnvOK Tryz.prog false ub0u_ := enk ubsk_
noncomputable def u5d_ : Code := u0_ Tryz.f104
theorem ubqa_ : CutOK Tryz.prog false Tryz.f104.ntmps u6g_ (sub u5d_ [1, 1, 0, 0]) :=
 lok (body := sub u5d_ [1, 1, 0, 0, 0]) (n := 1) (l := []) ubft_ trivial
theorem ud9_ : uo_ Tryz.prog 104 ∧ FunOK Tryz.prog 104 udi_ :=
 fnk (c := u5d_) (l := [(u6g_, sub u5d_ [1, 1, 0, 0])]) ubft_ Tryz.func104 ⟨⟨by kernel_rfl, ubqa_⟩, trivial⟩
noncomputable def uba_ : FSpec := ⟨[.val (.int .u8)], [.val .bool], u5_, true⟩
noncomputable def u7u_ : List (Nat × FSpec) := []
theorem ubh9_ : FsOK Tryz.prog u7u_ := trivial
noncomputable def ubsl_ : Env := mkE u7u_ [] [] true
theorem ublg_ : EnvOK Tryz.prog true ubsl_ := enk ubh9_
noncomputable def ubsm_ : Code := u0_ Tryz.f105
theorem ubd_ : uo_ Tryz.prog 105 ∧ FunOK Tryz.prog 105 uba_ :=
 fnk (c := ubsm_) (l := []) ublg_ Tryz.func105 trivial
noncomputable def ub1_ : FSpec := ⟨[.val .str], [.val (.int .i64), .val .bool], ub3_, false⟩
noncomputable def ubcg_ : List (Nat × FSpec) := [(104, udi_), (105, uba_), (163, ubj9_)]
theorem ublh_ : FsOK Tryz.prog ubcg_ := ⟨ud9_, ubd_, strconv_Atoi_ok, trivial⟩
noncomputable def ubvb_ : Env := mkE ubcg_ [] [] false
theorem ubnz_ : EnvOK Tryz.prog false ubvb_ := enk ublh_
noncomputable def ubvc_ : Code := u0_ Tryz.f103
theorem ucb_ : uo_ Tryz.prog 103 ∧ FunOK Tryz.prog 103 ub1_ :=
 fnk (c := ubvc_) (l := []) ubnz_ Tryz.func103 trivial
noncomputable def ugo_ : FSpec := ⟨[.val .str], [.val (.int .i64), .val .bool], ufd_, false⟩
noncomputable def ux6_ : List (Nat × FSpec) := [(103, ub1_)]
theorem u7v_ : FsOK Tryz.prog ux6_ := ⟨ucb_, trivial⟩
noncomputable def ubia_ : Env := mkE ux6_ [] [] false
theorem ubag_ : EnvOK Tryz.prog false ubia_ := enk u7v_
noncomputable def ubib_ : Code := u0_ Tryz.f106
theorem ujf_ : uo_ Tryz.prog 106 ∧ FunOK Tryz.prog 106 ugo_ :=
 fnk (c := ubib_) (l := []) ubag_ Tryz.func106 trivial
noncomputable def ufh_ : FSpec := ⟨[.val (.int .u8)], [.val .bool], ufe_, true⟩
noncomputable def u5e_ : List (Nat × FSpec) := []
theorem ubfu_ : FsOK Tryz.prog u5e_ := trivial
noncomputable def ubqb_ : Env := mkE u5e_ [] [] true
theorem ubic_ : EnvOK Tryz.prog true ubqb_ := enk ubfu_
noncomputable def ubqc_ : Code := u0_ Tryz.f110
theorem ug7_ : uo_ Tryz.prog 110 ∧ FunOK Tryz.prog 110 ufh_ :=
 fnk (c := ubqc_) (l := []) ubic_ Tryz.func110 trivial
noncomputable def us1_ : FSpec := ⟨[.val (.int .u8)], [.val .bool], uiy_, true⟩
noncomputable def us2_ : List (Nat × FSpec) := [(105, uba_), (110, ufh_)]
theorem u14_ : FsOK Tryz.prog us2_ := ⟨ubd_, ug7_, trivial⟩
noncomputable def ubah_ : Env := mkE us2_ [] [] true
theorem u3i_ : EnvOK Tryz.prog true ubah_ := enk u14_
noncomputable def ubai_ : Code := u0_ Tryz.f217
theorem u7w_ : uo_ Tryz.prog 217 ∧ FunOK Tryz.prog 217 us1_ :=
 fnk (c := ubai_) (l := []) u3i_ Tryz.func217 trivial
noncomputable def uoq_ : FSpec := ⟨[.val .str], [.val (.slice .str), .val .bool], uiz_, false⟩
noncomputable def ux7_ : List (Nat × FSpec) := [(104, udi_), (216, u1t_), (217, us1_)]
theorem u7x_ : FsOK Tryz.prog ux7_ := ⟨ud9_, ube7_, u7w_, trivial⟩
noncomputable def una_ : CSpec := ⟨⟨[9, 10, 11], [.val (.slice .str), .val (.int .i64), .val (.int .i64)]⟩, [((.exit 0), ⟨[], []⟩), (.ret, ⟨[2, 3], [.val (.slice .str), .val .bool]⟩)], ([2, 3, 6] ++ seg 11 14), uod_, []⟩
noncomputable def ubid_ : Env := mkE ux7_ [(0, una_)] [] false
theorem uuh_ : EnvOK Tryz.prog false ubid_ := enk u7x_
noncomputable def uj4_ : Code := u0_ Tryz.f164
theorem u6h_ : CutOK Tryz.prog false Tryz.f164.ntmps una_ (sub uj4_ [1, 1, 0, 1, 0]) :=
 lok (body := sub uj4_ [1, 1, 0, 1, 0, 0]) (n := 1) (l := []) uuh_ trivial
theorem ux8_ : uo_ Tryz.prog 164 ∧ FunOK Tryz.prog 164 uoq_ :=
 fnk (c := uj4_) (l := [(una_, sub uj4_ [1, 1, 0, 1, 0])]) uuh_ Tryz.func164 ⟨⟨by kernel_rfl, u6h_⟩, trivial⟩
noncomputable def u5f_ : FSpec := ⟨[.val .str], [.val (.slice .str), .val .bool], utx_, false⟩
noncomputable def u5g_ : List (Nat × FSpec) := [(104, udi_), (105, uba_), (106, ugo_), (164, uoq_)]
theorem ubfv_ : FsOK Tryz.prog u5g_ := ⟨ud9_, ubd_, ujf_, ux8_, trivial⟩
noncomputable def usm_ : CSpec := ⟨⟨[15, 16, 17], [.val (.slice .str), .val (.int .i64), .val (.int .i64)]⟩, [((.exit 0), ⟨[], []⟩), (.ret, ⟨[2, 3], [.val (.slice .str), .val .bool]⟩)], ([2, 3, 7, 8, 9] ++ seg 17 17), utw_, []⟩
noncomputable def ubqd_ : Env := mkE u5g_ [(0, usm_)] [] false
theorem uz1_ : EnvOK Tryz.prog false ubqd_ := enk ubfv_
noncomputable def upq_ : Code := u0_ Tryz.f165
theorem ubdg_ : CutOK Tryz.prog false Tryz.f165.ntmps usm_ (sub upq_ [1, 1, 0, 1, 0]) :=
 lok (body := sub upq_ [1, 1, 0, 1, 0, 0]) (n := 1) (l := []) uz1_ trivial
theorem ubn0_ : uo_ Tryz.prog 165 ∧ FunOK Tryz.prog 165 u5f_ :=
 fnk (c := upq_) (l := [(usm_, sub upq_ [1, 1, 0, 1, 0])]) uz1_ Tryz.func165 ⟨⟨by kernel_rfl, ubdg_⟩, trivial⟩
noncomputable def ubkk_ : FSpec := ⟨[.val .str], [.val (.slice .str), .val .bool], u9v_, false⟩
noncomputable def ubkl_ : List (Nat × FSpec) := [(108, u93_), (164, uoq_), (165, u5f_)]
theorem ubqe_ : FsOK Tryz.prog ubkl_ := ⟨ubng_, ux8_, ubn0_, trivial⟩
noncomputable def uby8_ : Env := mkE ubkl_ [] [] false
theorem ubsn_ : EnvOK Tryz.prog false uby8_ := enk ubqe_
noncomputable def uby9_ : Code := u0_ Tryz.f107
theorem ubwv_ : uo_ Tryz.prog 107 ∧ FunOK Tryz.prog 107 ubkk_ :=
 fnk (c := uby9_) (l := []) ubsn_ Tryz.func107 trivial
noncomputable def uz2_ : FSpec := ⟨[.val .str], [.val ZZ1, .val .bool], upd_, false⟩
noncomputable def uz3_ : List (Nat × FSpec) := [(104, udi_), (105, uba_), (106, ugo_), (107, ubkk_)]
theorem ubaj_ : FsOK Tryz.prog uz3_ := ⟨ud9_, ubd_, ujf_, ubwv_, trivial⟩
noncomputable def uor_ : CSpec := ⟨⟨[0, 5, 16], [.val .str, .val (.int .i64), .val .bool]⟩, [(.normal, ⟨[5], [.val (.int .i64)]⟩), (.ret, ⟨[2, 3], [.val ZZ1, .val .bool]⟩)], ([2, 3, 5] ++ seg 17 12), ujw_, []⟩
noncomputable def uos_ : CSpec := ⟨⟨[0, 4, 5, 12], [.val .str, .box (.pr (.val (.arr 3 (.int .i64))) (.own 9 .str false)), .val (.int .i64), .val (.int .i64)]⟩, [((.exit 0), ⟨[4, 5], [.box (.pr (.val (.arr 3 (.int .i64))) (.own 9 .str false)), .val (.int .i64)]⟩), (.ret, ⟨[2, 3], [.val ZZ1, .val .bool]⟩)], ([2, 3, 5, 6, 7, 8, 9] ++ seg 12 40), up9_, []⟩
noncomputable def ubli_ : Env := mkE uz3_ [(2, uor_), (0, uos_)] [] false
theorem unb_ : EnvOK Tryz.prog false ubli_ := enk ubaj_
noncomputable def ucp_ : Code := u0_ Tryz.f63
theorem u7y_ : CutOK Tryz.prog false Tryz.f63.ntmps uor_ (sub ucp_ [1, 1, 1, 0, 1, 0, 0, 1, 1, 0, 0, 1, 0, 1]) :=
 brk (c := up7_ (sub ucp_ [1, 1, 1, 0, 1, 0, 0, 1, 1, 0, 0, 1, 0, 1])) (x := sub ucp_ [1, 1, 1, 0, 1, 0, 0, 1, 1, 0, 0, 1, 0, 1, 0]) (y := sub ucp_ [1, 1, 1, 0, 1, 0, 0, 1, 1, 0, 0, 1, 0, 1, 1]) (n := 2) (lx := []) (ly := []) unb_ trivial trivial
theorem u7z_ : CutOK Tryz.prog false Tryz.f63.ntmps uos_ (sub ucp_ [1, 1, 1, 0, 1, 0]) :=
 lok (body := sub ucp_ [1, 1, 1, 0, 1, 0, 0]) (n := 1) (l := [(uor_, sub ucp_ [1, 1, 1, 0, 1, 0, 0, 1, 1, 0, 0, 1, 0, 1])]) unb_ ⟨⟨by kernel_rfl, u7y_⟩, trivial⟩
theorem ubie_ : uo_ Tryz.prog 63 ∧ FunOK Tryz.prog 63 uz2_ :=
 fnk (c := ucp_) (l := [(uos_, sub ucp_ [1, 1, 1, 0, 1, 0])]) unb_ Tryz.func63 ⟨⟨by kernel_rfl, u7z_⟩, trivial⟩
noncomputable def us3_ : FSpec := ⟨[.val (.int .u8)], [.val .bool], ui0_, true⟩
noncomputable def us4_ : List (Nat × FSpec) := [(105, uba_), (110, ufh_), (111, uf9_)]
theorem u15_ : FsOK Tryz.prog us4_ := ⟨ubd_, ug7_, uhx_, trivial⟩
noncomputable def ubak_ : Env := mkE us4_ [] [] true
theorem u3j_ : EnvOK Tryz.prog true ubak_ := enk u15_
noncomputable def ubal_ : Code := u0_ Tryz.f109
theorem u70_ : uo_ Tryz.prog 109 ∧ FunOK Tryz.prog 109 us3_ :=
 fnk (c := ubal_) (l := []) u3j_ Tryz.func109 trivial
noncomputable def u16_ : FSpec := ⟨[.val .str], [.val .bool], uro_, false⟩
noncomputable def u17_ : List (Nat × FSpec) := [(104, udi_), (105, uba_)]
theorem ubdh_ : FsOK Tryz.prog u17_ := ⟨ud9_, ubd_, trivial⟩
noncomputable def uqj_ : CSpec := ⟨⟨[0, 3], [.val .str, .val (.int .i64)]⟩, [((.exit 0), ⟨[], []⟩), (.ret, ⟨[2], [.val .bool]⟩)], (seg 2 16), ur3_, []⟩
noncomputable def ubn1_ : Env := mkE u17_ [(0, uqj_)] [] false
theorem ux9_ : EnvOK Tryz.prog false ubn1_ := enk ubdh_
noncomputable def un0_ : Code := u0_ Tryz.f112
theorem ubam_ : CutOK Tryz.prog false Tryz.f112.ntmps uqj_ (sub un0_ [1, 0, 1, 0]) :=
 lok (body := sub un0_ [1, 0, 1, 0, 0]) (n := 1) (l := []) ux9_ trivial
theorem ublj_ : uo_ Tryz.prog 112 ∧ FunOK Tryz.prog 112 u16_ :=
 fnk (c := un0_) (l := [(uqj_, sub un0_ [1, 0, 1, 0])]) ux9_ Tryz.func112 ⟨⟨by kernel_rfl, ubam_⟩, trivial⟩
noncomputable def uya_ : FSpec := ⟨[.val .str], [.val ZZ1, .val .bool], unu_, false⟩
noncomputable def uyb_ : List (Nat × FSpec) := [(104, udi_), (105, uba_), (106, ugo_), (108, u93_), (109, us3_), (111, uf9_), (112, u16_), (113, ut9_)]
theorem u71_ : FsOK Tryz.prog uyb_ := ⟨ud9_, ubd_, ujf_, ubng_, u70_, uhx_, ublj_, u92_, trivial⟩
noncomputable def unc_ : CSpec := ⟨⟨[0, 4, 5, 6, 18], [.val .str, .box (.val ZZ14), .val .str, .val .str, .val .bool]⟩, [(.normal, ⟨[0, 4], [.val .str, .box (.val ZZ14)]⟩), (.ret, ⟨[2, 3], [.val ZZ1, .val .bool]⟩)], ([0, 2, 3, 8, 9] ++ seg 19 10), ui1_, []⟩
noncomputable def ubif_ : Env := mkE uyb_ [(0, unc_)] [] false
theorem uui_ : EnvOK Tryz.prog false ubif_ := enk u71_
noncomputable def ufm_ : Code := u0_ Tryz.f64
theorem u6i_ : CutOK Tryz.prog false Tryz.f64.ntmps unc_ (sub ufm_ [1, 1, 0, 1, 1]) :=
 brk (c := up7_ (sub ufm_ [1, 1, 0, 1, 1])) (x := sub ufm_ [1, 1, 0, 1, 1, 0]) (y := sub ufm_ [1, 1, 0, 1, 1, 1]) (n := 0) (lx := []) (ly := []) uui_ trivial trivial
theorem ubfw_ : uo_ Tryz.prog 64 ∧ FunOK Tryz.prog 64 uya_ :=
 fnk (c := ufm_) (l := [(unc_, sub ufm_ [1, 1, 0, 1, 1])]) uui_ Tryz.func64 ⟨⟨by kernel_rfl, u6i_⟩, trivial⟩
noncomputable def u18_ : FSpec := ⟨[.val .str], [.val ZZ16, .val .str, .val .bool], urp_, false⟩
noncomputable def u19_ : List (Nat × FSpec) := [(103, ub1_), (104, udi_), (105, uba_)]
theorem ubdi_ : FsOK Tryz.prog u19_ := ⟨ucb_, ud9_, ubd_, trivial⟩
noncomputable def uqk_ : CSpec := ⟨⟨[0, 5], [.val .str, .own 3 (.int .i64) false]⟩, [(.ret, ⟨[2, 3, 4], [.val ZZ16, .val .str, .val .bool]⟩)], ([0] ++ seg 2 43), ur4_, []⟩
noncomputable def ubn2_ : Env := mkE u19_ [(0, uqk_)] [] false
theorem uyc_ : EnvOK Tryz.prog false ubn2_ := enk ubdi_
noncomputable def un1_ : Code := u0_ Tryz.f115
theorem uban_ : CutOK Tryz.prog false Tryz.f115.ntmps uqk_ (sub un1_ [1, 1, 0]) :=
 lok (body := sub un1_ [1, 1, 0, 0]) (n := 1) (l := []) uyc_ trivial
theorem ublk_ : uo_ Tryz.prog 115 ∧ FunOK Tryz.prog 115 u18_ :=
 fnk (c := un1_) (l := [(uqk_, sub un1_ [1, 1, 0])]) uyc_ Tryz.func115 ⟨⟨by kernel_rfl, uban_⟩, trivial⟩
noncomputable def ubch_ : FSpec := ⟨[.val (.int .u8)], [.val .bool], u9w_, true⟩
noncomputable def ubci_ : List (Nat × FSpec) := []
theorem ubll_ : FsOK Tryz.prog ubci_ := trivial
noncomputable def ubvd_ : Env := mkE ubci_ [] [] true
theorem ubn3_ : EnvOK Tryz.prog true ubvd_ := enk ubll_
noncomputable def ubve_ : Code := u0_ Tryz.f221
theorem ubso_ : uo_ Tryz.prog 221 ∧ FunOK Tryz.prog 221 ubch_ :=
 fnk (c := ubve_) (l := []) ubn3_ Tryz.func221 trivial
noncomputable def ubcj_ : FSpec := ⟨[.val .str, .hof false (.int .u8) .bool], [.val (.int .i64)], uty_, false⟩
noncomputable def ubck_ : List (Nat × FSpec) := [(221, ubch_)]
theorem ublm_ : FsOK Tryz.prog ubck_ := ⟨ubso_, trivial⟩
noncomputable def ubvf_ : Env := mkE ubck_ [] [] false
theorem ubn4_ : EnvOK Tryz.prog false ubvf_ := enk ublm_
noncomputable def ubvg_ : Code := u0_ Tryz.f170
theorem ubsp_ : uo_ Tryz.prog 170 ∧ FunOK Tryz.prog 170 ubcj_ :=
 fnk (c := ubvg_) (l := []) ubn4_ Tryz.func170 trivial
noncomputable def u2a_ : FSpec := ⟨[.val .str], [.val .str, .val (.int .i64), .val (.int .i64)], urq_, true⟩
noncomputable def u2b_ : List (Nat × FSpec) := [(222, u1r_)]
theorem ubdj_ : FsOK Tryz.prog u2b_ := ⟨ubk5_, trivial⟩
noncomputable def uql_ : CSpec := ⟨⟨[0, 2, 7, 8, 9], [.val .str, .val .str, .own 9 .str false, .val (.int .i64), .val (.int .i64)]⟩, [((.exit 0), ⟨[2], [.val .str]⟩)], ([2, 6] ++ seg 9 9), ur5_, []⟩
noncomputable def uqm_ : CSpec := ⟨⟨[18, 21], [.val .str, .val .bool]⟩, [(.normal, ⟨[21], [.val .bool]⟩)], [21, 23], ulo_, []⟩
noncomputable def uqn_ : CSpec := ⟨⟨[18, 25], [.val .str, .val .bool]⟩, [(.normal, ⟨[25], [.val .bool]⟩)], [25, 27], ulp_, []⟩
noncomputable def uqo_ : CSpec := ⟨⟨[18, 29], [.val .str, .val .bool]⟩, [(.normal, ⟨[29], [.val .bool]⟩)], [29, 31, 32, 33], ulq_, []⟩
noncomputable def ubn5_ : Env := mkE u2b_ [(0, uql_), (4, uqm_), (6, uqn_), (8, uqo_)] [] true
theorem ugp_ : EnvOK Tryz.prog true ubn5_ := enk ubdj_
noncomputable def u6_ : Code := u0_ Tryz.f171
theorem ubao_ : CutOK Tryz.prog true Tryz.f171.ntmps uql_ (sub u6_ [1, 0, 1, 0]) :=
 lok (body := sub u6_ [1, 0, 1, 0, 0]) (n := 1) (l := []) ugp_ trivial
theorem ubap_ : CutOK Tryz.prog true Tryz.f171.ntmps uqm_ (sub u6_ [1, 1, 0, 1, 0, 1, 1, 0, 1]) :=
 brk (c := up7_ (sub u6_ [1, 1, 0, 1, 0, 1, 1, 0, 1])) (x := sub u6_ [1, 1, 0, 1, 0, 1, 1, 0, 1, 0]) (y := sub u6_ [1, 1, 0, 1, 0, 1, 1, 0, 1, 1]) (n := 4) (lx := []) (ly := []) ugp_ trivial trivial
theorem ubaq_ : CutOK Tryz.prog true Tryz.f171.ntmps uqn_ (sub u6_ [1, 1, 0, 1, 0, 1, 1, 1, 1, 0, 1]) :=
 brk (c := up7_ (sub u6_ [1, 1, 0, 1, 0, 1, 1, 1, 1, 0, 1])) (x := sub u6_ [1, 1, 0, 1, 0, 1, 1, 1, 1, 0, 1, 0]) (y := sub u6_ [1, 1, 0, 1, 0, 1, 1, 1, 1, 0, 1, 1]) (n := 6) (lx := []) (ly := []) ugp_ trivial trivial
theorem ubar_ : CutOK Tryz.prog true Tryz.f171.ntmps uqo_ (sub u6_ [1, 1, 0, 1, 0, 1, 1, 1, 1, 1, 1, 0, 1]) :=
 brk (c := up7_ (sub u6_ [1, 1, 0, 1, 0, 1, 1, 1, 1, 1, 1, 0, 1])) (x := sub u6_ [1, 1, 0, 1, 0, 1, 1, 1, 1, 1, 1, 0, 1, 0]) (y := sub u6_ [1, 1, 0, 1, 0, 1, 1, 1, 1, 1, 1, 0, 1, 1]) (n := 8) (lx := []) (ly := []) ugp_ trivial trivial
theorem ubln_ : uo_ Tryz.prog 171 ∧ FunOK Tryz.prog 171 u2a_ :=
 fnk (c := u6_) (l := [(uql_, sub u6_ [1, 0, 1, 0]), (uqm_, sub u6_ [1, 1, 0, 1, 0, 1, 1, 0, 1]), (uqn_, sub u6_ [1, 1, 0, 1, 0, 1, 1, 1, 1, 0, 1]), (uqo_, sub u6_ [1, 1, 0, 1, 0, 1, 1, 1, 1, 1, 1, 0, 1])]) ugp_ Tryz.func171 ⟨⟨by kernel_rfl, ubao_⟩, ⟨by kernel_rfl, ubap_⟩, ⟨by kernel_rfl, ubaq_⟩, ⟨by kernel_rfl, ubar_⟩, trivial⟩
noncomputable def uvx_ : FSpec := ⟨[.box (.val ZZ6), .val .str], [.val .str, .val .bool], ulr_, false⟩
noncomputable def uvy_ : List (Nat × FSpec) := [(103, ub1_), (104, udi_), (105, uba_), (110, ufh_), (170, ubcj_), (171, u2a_)]
theorem u6j_ : FsOK Tryz.prog uvy_ := ⟨ucb_, ud9_, ubd_, ug7_, ubsp_, ubln_, trivial⟩
noncomputable def ul1_ : CSpec := ⟨⟨[7, 11, 12, 49], [.val .str, .val (.int .i64), .val (.int .i64), .val .bool]⟩, [(.normal, ⟨[7, 11], [.val .str, .val (.int .i64)]⟩), (.ret, ⟨[4, 5], [.val .str, .val .bool]⟩)], ([4, 5, 7, 11, 13, 14, 15] ++ seg 50 21), uh1_, []⟩
noncomputable def ul2_ : CSpec := ⟨⟨[0, 1, 6], [.box (.val ZZ6), .val .str, .val (.int .i64)]⟩, [(.ret, ⟨[0, 4, 5], [.box (.val ZZ6), .val .str, .val .bool]⟩)], ([1] ++ seg 4 91), um5_, []⟩
noncomputable def ubfx_ : Env := mkE uvy_ [(3, ul1_), (0, ul2_)] [] false
theorem ukn_ : EnvOK Tryz.prog false ubfx_ := enk u6j_
noncomputable def ub4_ : Code := u0_ Tryz.f116
theorem u3k_ : CutOK Tryz.prog false Tryz.f116.ntmps ul1_ (sub ub4_ [1, 1, 0, 0, 0, 1, 1, 1, 1, 1, 1, 0, 1, 1]) :=
 brk (c := up7_ (sub ub4_ [1, 1, 0, 0, 0, 1, 1, 1, 1, 1, 1, 0, 1, 1])) (x := sub ub4_ [1, 1, 0, 0, 0, 1, 1, 1, 1, 1, 1, 0, 1, 1, 0]) (y := sub ub4_ [1, 1, 0, 0, 0, 1, 1, 1, 1, 1, 1, 0, 1, 1, 1]) (n := 3) (lx := []) (ly := []) ukn_ trivial trivial
theorem u3l_ : CutOK Tryz.prog false Tryz.f116.ntmps ul2_ (sub ub4_ [1, 1, 0]) :=
 lok (body := sub ub4_ [1, 1, 0, 0]) (n := 1) (l := [(ul1_, sub ub4_ [1, 1, 0, 0, 0, 1, 1, 1, 1, 1, 1, 0, 1, 1])]) ukn_ ⟨⟨by kernel_rfl, u3k_⟩, trivial⟩
theorem ubdk_ : uo_ Tryz.prog 116 ∧ FunOK Tryz.prog 116 uvx_ :=
 fnk (c := ub4_) (l := [(ul2_, sub ub4_ [1, 1, 0])]) ukn_ Tryz.func116 ⟨⟨by kernel_rfl, u3l_⟩, trivial⟩
noncomputable def uz4_ : FSpec := ⟨[.val (.int .i32)], [.val .bool], uwr_, true⟩
noncomputable def uz5_ : List (Nat × FSpec) := []
theorem ubas_ : FsOK Tryz.prog uz5_ := trivial
noncomputable def ublo_ : Env := mkE uz5_ [] [] true
theorem ubdl_ : EnvOK Tryz.prog true ublo_ := enk ubas_
noncomputable def ublp_ : Code := u0_ Tryz.f174
theorem ubig_ : uo_ Tryz.prog 174 ∧ FunOK Tryz.prog 174 uz4_ :=
 fnk (c := ublp_) (l := []) ubdl_ Tryz.func174 trivial
noncomputable def uz6_ : FSpec := ⟨[.val (.int .u8)], [.val .bool], upe_, true⟩
noncomputable def uz7_ : List (Nat × FSpec) := [(105, uba_), (110, ufh_)]
theorem ubat_ : FsOK Tryz.prog uz7_ := ⟨ubd_, ug7_, trivial⟩
noncomputable def ublq_ : Env := mkE uz7_ [] [] true
theorem ubdm_ : EnvOK Tryz.prog true ublq_ := enk ubat_
noncomputable def ublr_ : Code := u0_ Tryz.f175
theorem ubih_ : uo_ Tryz.prog 175 ∧ FunOK Tryz.prog 175 uz6_ :=
 fnk (c := ublr_) (l := []) ubdm_ Tryz.func175 trivial
noncomputable def u72_ : FSpec := ⟨[.val .str], [.val (.slice .str), .val .bool], uxh_, false⟩
noncomputable def u73_ : List (Nat × FSpec) := [(104, udi_), (105, uba_), (173, uzw_), (174, uz4_), (175, uz6_)]
theorem ubii_ : FsOK Tryz.prog u73_ := ⟨ud9_, ubd_, ubh2_, ubig_, ubih_, trivial⟩
noncomputable def uuj_ : CSpec := ⟨⟨[5, 13, 14, 15], [.val (.int .i64), .val (.slice .str), .val (.int .i64), .val (.int .i64)]⟩, [((.exit 0), ⟨[5], [.val (.int .i64)]⟩), (.ret, ⟨[2, 3], [.val (.slice .str), .val .bool]⟩)], ([2, 3, 5, 7, 8] ++ seg 15 26), uws_, []⟩
noncomputable def ubsq_ : Env := mkE u73_ [(0, uuj_)] [] false
theorem u2c_ : EnvOK Tryz.prog false ubsq_ := enk ubii_
noncomputable def urv_ : Code := u0_ Tryz.f118
theorem ubfy_ : CutOK Tryz.prog false Tryz.f118.ntmps uuj_ (sub urv_ [1, 1, 1, 0, 1, 0]) :=
 lok (body := sub urv_ [1, 1, 1, 0, 1, 0, 0]) (n := 1) (l := []) u2c_ trivial
theorem ubqf_ : uo_ Tryz.prog 118 ∧ FunOK Tryz.prog 118 u72_ :=
 fnk (c := urv_) (l := [(uuj_, sub urv_ [1, 1, 1, 0, 1, 0])]) u2c_ Tryz.func118 ⟨⟨by kernel_rfl, ubfy_⟩, trivial⟩
noncomputable def uz8_ : FSpec := ⟨[.val .str], [.val ZZ1, .val .bool], upf_, false⟩
noncomputable def uz9_ : List (Nat × FSpec) := [(103, ub1_), (104, udi_), (105, uba_), (114, uzv_), (115, u18_), (116, uvx_), (117, u1s_), (118, u72_)]
theorem ubau_ : FsOK Tryz.prog uz9_ := ⟨ucb_, ud9_, ubd_, ubh1_, ublk_, ubdk_, ubk6_, ubqf_, trivial⟩
noncomputable def uot_ : CSpec := ⟨⟨[0, 4, 5, 29], [.val .str, .box (.val ZZ6), .val (.int .i64), .val .bool]⟩, [(.normal, ⟨[0, 4], [.val .str, .box (.val ZZ6)]⟩), (.ret, ⟨[2, 3], [.val ZZ1, .val .bool]⟩)], ([0, 2, 3, 6, 7] ++ seg 30 15), ujx_, []⟩
noncomputable def ubls_ : Env := mkE uz9_ [(0, uot_)] [] false
theorem uvz_ : EnvOK Tryz.prog false ubls_ := enk ubau_
noncomputable def uga_ : Code := u0_ Tryz.f65
theorem u74_ : CutOK Tryz.prog false Tryz.f65.ntmps uot_ (sub uga_ [1, 1, 1, 0, 1, 1]) :=
 brk (c := up7_ (sub uga_ [1, 1, 1, 0, 1, 1])) (x := sub uga_ [1, 1, 1, 0, 1, 1, 0]) (y := sub uga_ [1, 1, 1, 0, 1, 1, 1]) (n := 0) (lx := []) (ly := []) uvz_ trivial trivial
theorem ubij_ : uo_ Tryz.prog 65 ∧ FunOK Tryz.prog 65 uz8_ :=
 fnk (c := uga_) (l := [(uot_, sub uga_ [1, 1, 1, 0, 1, 1])]) uvz_ Tryz.func65 ⟨⟨by kernel_rfl, u74_⟩, trivial⟩
noncomputable def ubfz_ : FSpec := ⟨[.val .str, .val .bool], [.val .str], u4s_, false⟩
noncomputable def ubf0_ : List (Nat × FSpec) := [(66, uww_)]
theorem ubn6_ : FsOK Tryz.prog ubf0_ := ⟨u7s_, trivial⟩
noncomputable def ubww_ : Env := mkE ubf0_ [] [] false
theorem ubqg_ : EnvOK Tryz.prog false ubww_ := enk ubn6_
noncomputable def ubwx_ : Code := u0_ Tryz.f125
theorem ubvh_ : uo_ Tryz.prog 125 ∧ FunOK Tryz.prog 125 ubfz_ :=
 fnk (c := ubwx_) (l := []) ubqg_ Tryz.func125 trivial
noncomputable def ujg_ : FSpec := ⟨[.val ZZ12], [.val .bool], ugy_, true⟩
noncomputable def uyd_ : List (Nat × FSpec) := []
theorem u75_ : FsOK Tryz.prog uyd_ := trivial
noncomputable def ubik_ : Env := mkE uyd_ [] [] true
theorem ubav_ : EnvOK Tryz.prog true ubik_ := enk u75_
noncomputable def ubil_ : Code := u0_ Tryz.f126
theorem uou_ : uo_ Tryz.prog 126 ∧ FunOK Tryz.prog 126 ujg_ :=
 fnk (c := ubil_) (l := []) ubav_ Tryz.func126 trivial
noncomputable def uuk_ : FSpec := ⟨[.val .str], [.val ZZ1, .val .bool], ujy_, false⟩
noncomputable def uul_ : List (Nat × FSpec) := [(103, ub1_), (104, udi_), (105, uba_), (110, ufh_), (125, ubfz_), (126, ujg_)]
theorem u3m_ : FsOK Tryz.prog uul_ := ⟨ucb_, ud9_, ubd_, ug7_, ubvh_, uou_, trivial⟩
noncomputable def uko_ : CSpec := ⟨⟨[0, 5, 24], [.val .str, .val (.int .i64), .val .bool]⟩, [(.normal, ⟨[5], [.val (.int .i64)]⟩), (.ret, ⟨[2, 3], [.val ZZ1, .val .bool]⟩)], ([2, 3, 5] ++ seg 25 27), uhk_, []⟩
noncomputable def ukp_ : CSpec := ⟨⟨[0, 4, 5], [.val .str, .box (.own 210 ZZ12 false), .val (.int .i64)]⟩, [((.exit 0), ⟨[4], [.box (.own 210 ZZ12 false)]⟩), (.ret, ⟨[2, 3], [.val ZZ1, .val .bool]⟩)], ([2, 3] ++ seg 5 110), uls_, []⟩
noncomputable def ukq_ : CSpec := ⟨⟨[4], [.box (.val (.slice ZZ12))]⟩, [((.exit 2), ⟨[4], [.box (.val (.slice ZZ12))]⟩)], (seg 115 23), ult_, []⟩
noncomputable def ubdn_ : Env := mkE uul_ [(2, uko_), (0, ukp_), (7, ukq_)] [] false
theorem ugl_ : EnvOK Tryz.prog false ubdn_ := enk u3m_
noncomputable def ubb_ : Code := u0_ Tryz.f67
theorem u2d_ : CutOK Tryz.prog false Tryz.f67.ntmps uko_ (sub ubb_ [1, 1, 0, 1, 0, 0, 1, 0, 0, 1]) :=
 brk (c := up7_ (sub ubb_ [1, 1, 0, 1, 0, 0, 1, 0, 0, 1])) (x := sub ubb_ [1, 1, 0, 1, 0, 0, 1, 0, 0, 1, 0]) (y := sub ubb_ [1, 1, 0, 1, 0, 0, 1, 0, 0, 1, 1]) (n := 2) (lx := []) (ly := []) ugl_ trivial trivial
theorem u2e_ : CutOK Tryz.prog false Tryz.f67.ntmps ukp_ (sub ubb_ [1, 1, 0, 1, 0]) :=
 lok (body := sub ubb_ [1, 1, 0, 1, 0, 0]) (n := 1) (l := [(uko_, sub ubb_ [1, 1, 0, 1, 0, 0, 1, 0, 0, 1])]) ugl_ ⟨⟨by kernel_rfl, u2d_⟩, trivial⟩
theorem u2f_ : CutOK Tryz.prog false Tryz.f67.ntmps ukq_ (sub ubb_ [1, 1, 1, 0, 0]) :=
 lok (body := sub ubb_ [1, 1, 1, 0, 0, 0]) (n := 8) (l := []) ugl_ trivial
theorem ubaw_ : uo_ Tryz.prog 67 ∧ FunOK Tryz.prog 67 uuk_ :=
 fnk (c := ubb_) (l := [(ukp_, sub ubb_ [1, 1, 0, 1, 0]), (ukq_, sub ubb_ [1, 1, 1, 0, 0])]) ugl_ Tryz.func67 ⟨⟨by kernel_rfl, u2e_⟩, ⟨by kernel_rfl, u2f_⟩, trivial⟩
noncomputable def u2g_ : FSpec := ⟨[.val .str], [.val ZZ1, .val .bool], urr_, false⟩
noncomputable def u2h_ : List (Nat × FSpec) := [(106, ugo_)]
theorem ubdo_ : FsOK Tryz.prog u2h_ := ⟨ujf_, trivial⟩
noncomputable def ubn7_ : Env := mkE u2h_ [] [] false
theorem ubf1_ : EnvOK Tryz.prog false ubn7_ := enk ubdo_
noncomputable def ubn8_ : Code := u0_ Tryz.f68
theorem ublt_ : uo_ Tryz.prog 68 ∧ FunOK Tryz.prog 68 u2g_ :=
 fnk (c := ubn8_) (l := []) ubf1_ Tryz.func68 trivial
noncomputable def uhp_ : FSpec := ⟨[.val (.int .i64), .val .str], [.val ZZ1, .val (.int .i64)], udq_, false⟩
noncomputable def ubkm_ : List (Nat × FSpec) := [(63, uz2_), (64, uya_), (65, uz8_), (66, uww_), (67, uuk_), (68, u2g_)]
theorem ubqh_ : FsOK Tryz.prog ubkm_ := ⟨ubie_, ubfw_, ubij_, u7s_, ubaw_, ublt_, trivial⟩
noncomputable def ubza_ : Env := mkE ubkm_ [] [] false
theorem ubsr_ : EnvOK Tryz.prog false ubza_ := enk ubqh_
noncomputable def ubzb_ : Code := u0_ Tryz.f31
theorem ujn_ : uo_ Tryz.prog 31 ∧ FunOK Tryz.prog 31 uhp_ :=
 fnk (c := ubzb_) (l := []) ubsr_ Tryz.func31 trivial
noncomputable def uov_ : FSpec := ⟨[.val ZZ16], [.val .str], ui2_, false⟩
noncomputable def uye_ : List (Nat × FSpec) := [(161, ud1_), (191, um3_)]
theorem u76_ : FsOK Tryz.prog uye_ := ⟨uef_, uq7_, trivial⟩
noncomputable def und_ : CSpec := ⟨⟨[3, 6, 7, 8], [.own 9 .str false, .val ZZ16, .val (.int .i64), .val (.int .i64)]⟩, [((.exit 0), ⟨[3], [.own 9 .str false]⟩)], ([3, 5] ++ seg 8 10), uoe_, []⟩
noncomputable def ubim_ : Env := mkE uye_ [(0, und_)] [] false
theorem uum_ : EnvOK Tryz.prog false ubim_ := enk u76_
noncomputable def uj5_ : Code := u0_ Tryz.f302
theorem u6k_ : CutOK Tryz.prog false Tryz.f302.ntmps und_ (sub uj5_ [1, 1, 0, 1, 0]) :=
 lok (body := sub uj5_ [1, 1, 0, 1, 0, 0]) (n := 1) (l := []) uum_ trivial
theorem uyf_ : uo_ Tryz.prog 302 ∧ FunOK Tryz.prog 302 uov_ :=
 fnk (c := uj5_) (l := [(und_, sub uj5_ [1, 1, 0, 1, 0])]) uum_ Tryz.func302 ⟨⟨by kernel_rfl, u6k_⟩, trivial⟩
noncomputable def une_ : FSpec := ⟨[.val (.agg (.prod (.arr 3 (.int .i64)) (.slice .str)))], [.val .str], uht_, false⟩
noncomputable def uv0_ : List (Nat × FSpec) := [(191, um3_), (302, uov_)]
theorem u6l_ : FsOK Tryz.prog uv0_ := ⟨uq7_, uyf_, trivial⟩
noncomputable def ubf2_ : Env := mkE uv0_ [] [] false
theorem u77_ : EnvOK Tryz.prog false ubf2_ := enk u6l_
noncomputable def ubf3_ : Code := u0_ Tryz.f299
theorem uv1_ : uo_ Tryz.prog 299 ∧ FunOK Tryz.prog 299 une_ :=
 fnk (c := ubf3_) (l := []) u77_ Tryz.func299 trivial
noncomputable def uyg_ : FSpec := ⟨[.val .str], [.val .str], ui3_, false⟩
noncomputable def uyh_ : List (Nat × FSpec) := [(103, ub1_), (104, udi_), (105, uba_), (120, ub0_), (121, udv_), (122, ubt_), (161, ud1_)]
theorem u78_ : FsOK Tryz.prog uyh_ := ⟨ucb_, ud9_, ubd_, uct_, ufg_, ucf_, uef_, trivial⟩
noncomputable def unf_ : CSpec := ⟨⟨[0, 3, 4], [.val .str, .bld 5 false, .val (.int .i64)]⟩, [((.exit 0), ⟨[3], [.bld 5 false]⟩)], (seg 4 49), uof_, []⟩
noncomputable def ubin_ : Env := mkE uyh_ [(0, unf_)] [] false
theorem uun_ : EnvOK Tryz.prog false ubin_ := enk u78_
noncomputable def uj6_ : Code := u0_ Tryz.f309
theorem u6m_ : CutOK Tryz.prog false Tryz.f309.ntmps unf_ (sub uj6_ [1, 1, 0, 1, 0]) :=
 lok (body := sub uj6_ [1, 1, 0, 1, 0, 0]) (n := 1) (l := []) uun_ trivial
theorem ubf4_ : uo_ Tryz.prog 309 ∧ FunOK Tryz.prog 309 uyg_ :=
 fnk (c := uj6_) (l := [(unf_, sub uj6_ [1, 1, 0, 1, 0])]) uun_ Tryz.func309 ⟨⟨by kernel_rfl, u6m_⟩, trivial⟩
noncomputable def ung_ : FSpec := ⟨[.val (.agg ZZ14)], [.val .str], uhu_, true⟩
noncomputable def uv2_ : List (Nat × FSpec) := []
theorem u6n_ : FsOK Tryz.prog uv2_ := trivial
noncomputable def ubf5_ : Env := mkE uv2_ [] [] true
theorem u79_ : EnvOK Tryz.prog true ubf5_ := enk u6n_
noncomputable def ubf6_ : Code := u0_ Tryz.f311
theorem uv3_ : uo_ Tryz.prog 311 ∧ FunOK Tryz.prog 311 ung_ :=
 fnk (c := ubf6_) (l := []) u79_ Tryz.func311 trivial
noncomputable def uuo_ : FSpec := ⟨[.val (.int .u8)], [.val .bool], ujz_, true⟩
noncomputable def uup_ : List (Nat × FSpec) := [(105, uba_)]
theorem u3n_ : FsOK Tryz.prog uup_ := ⟨ubd_, trivial⟩
noncomputable def ubdp_ : Env := mkE uup_ [] [] true
theorem u6o_ : EnvOK Tryz.prog true ubdp_ := enk u3n_
noncomputable def ubdq_ : Code := u0_ Tryz.f312
theorem ubax_ : uo_ Tryz.prog 312 ∧ FunOK Tryz.prog 312 uuo_ :=
 fnk (c := ubdq_) (l := []) u6o_ Tryz.func312 trivial
noncomputable def u8a_ : FSpec := ⟨[.val .str], [.val .str], uxi_, false⟩
noncomputable def u8b_ : List (Nat × FSpec) := [(110, ufh_), (121, udv_), (122, ubt_)]
theorem ubio_ : FsOK Tryz.prog u8b_ := ⟨ug7_, ufg_, ucf_, trivial⟩
noncomputable def uuq_ : CSpec := ⟨⟨[0, 3, 6, 7], [.val .str, .bld 5 false, .val (.int .i64), .val (.int .i64)]⟩, [((.exit 0), ⟨[3], [.bld 5 false]⟩)], ([4] ++ seg 7 24), uwt_, []⟩
noncomputable def ubss_ : Env := mkE u8b_ [(0, uuq_)] [] false
theorem u2i_ : EnvOK Tryz.prog false ubss_ := enk ubio_
noncomputable def urw_ : Code := u0_ Tryz.f313
theorem ubf7_ : CutOK Tryz.prog false Tryz.f313.ntmps uuq_ (sub urw_ [1, 1, 0, 1, 0]) :=
 lok (body := sub urw_ [1, 1, 0, 1, 0, 0]) (n := 1) (l := []) u2i_ trivial
theorem ubqi_ : uo_ Tryz.prog 313 ∧ FunOK Tryz.prog 313 u8a_ :=
 fnk (c := urw_) (l := [(uuq_, sub urw_ [1, 1, 0, 1, 0])]) u2i_ Tryz.func313 ⟨⟨by kernel_rfl, ubf7_⟩, trivial⟩
noncomputable def ud2_ : FSpec := ⟨[.val (.int .i64)], [.val .str], udr_, false⟩
noncomputable def ubkn_ : List (Nat × FSpec) := [(161, ud1_), (210, ubb7_)]
theorem ubqj_ : FsOK Tryz.prog ubkn_ := ⟨uef_, ubsa_, trivial⟩
noncomputable def ubzc_ : Env := mkE ubkn_ [] [] false
theorem ubst_ : EnvOK Tryz.prog false ubzc_ := enk ubqj_
noncomputable def ubzd_ : Code := u0_ Tryz.f160
theorem ueg_ : uo_ Tryz.prog 160 ∧ FunOK Tryz.prog 160 ud2_ :=
 fnk (c := ubzd_) (l := []) ubst_ Tryz.func160 trivial
noncomputable def uqp_ : FSpec := ⟨[.val .str], [.val .str], uf6_, false⟩
noncomputable def u0a_ : List (Nat × FSpec) := [(103, ub1_), (104, udi_), (105, uba_), (120, ub0_), (122, ubt_), (160, ud2_), (312, uuo_), (313, u8a_)]
theorem ubay_ : FsOK Tryz.prog u0a_ := ⟨ucb_, ud9_, ubd_, uct_, ucf_, ueg_, ubax_, ubqi_, trivial⟩
noncomputable def uow_ : CSpec := ⟨⟨[0, 3], [.val .str, .bld 5 false]⟩, [((.exit 0), ⟨[3], [.bld 5 false]⟩)], ([0] ++ seg 4 34), uqa_, []⟩
noncomputable def ublu_ : Env := mkE u0a_ [(0, uow_)] [] false
theorem uv4_ : EnvOK Tryz.prog false ublu_ := enk ubay_
noncomputable def ul3_ : Code := u0_ Tryz.f310
theorem u8c_ : CutOK Tryz.prog false Tryz.f310.ntmps uow_ (sub ul3_ [1, 1, 0, 0]) :=
 lok (body := sub ul3_ [1, 1, 0, 0, 0]) (n := 1) (l := []) uv4_ trivial
theorem u0b_ : uo_ Tryz.prog 310 ∧ FunOK Tryz.prog 310 uqp_ :=
 fnk (c := ul3_) (l := [(uow_, sub ul3_ [1, 1, 0, 0])]) uv4_ Tryz.func310 ⟨⟨by kernel_rfl, u8c_⟩, trivial⟩
noncomputable def ul4_ : FSpec := ⟨[.val (.agg ZZ14)], [.val .str], uhe_, false⟩
noncomputable def uur_ : List (Nat × FSpec) := [(161, ud1_), (309, uyg_), (310, uqp_), (311, ung_)]
theorem u3o_ : FsOK Tryz.prog uur_ := ⟨uef_, ubf4_, u0b_, uv3_, trivial⟩
noncomputable def ukr_ : CSpec := ⟨⟨[1, 3, 9], [.box (.val ZZ14), .val .str, .val .bool]⟩, [(.normal, ⟨[1, 3], [.box (.val ZZ14), .val .str]⟩)], [3, 10, 11, 12, 13, 14, 15], uhl_, []⟩
noncomputable def ubdr_ : Env := mkE uur_ [(0, ukr_)] [] false
theorem ura_ : EnvOK Tryz.prog false ubdr_ := enk u3o_
noncomputable def ued_ : Code := u0_ Tryz.f306
theorem u2j_ : CutOK Tryz.prog false Tryz.f306.ntmps ukr_ (sub ued_ [1, 1, 0, 1]) :=
 brk (c := up7_ (sub ued_ [1, 1, 0, 1])) (x := sub ued_ [1, 1, 0, 1, 0]) (y := sub ued_ [1, 1, 0, 1, 1]) (n := 0) (lx := []) (ly := []) ura_ trivial trivial
theorem uus_ : uo_ Tryz.prog 306 ∧ FunOK Tryz.prog 306 ul4_ :=
 fnk (c := ued_) (l := [(ukr_, sub ued_ [1, 1, 0, 1])]) ura_ Tryz.func306 ⟨⟨by kernel_rfl, u2j_⟩, trivial⟩
noncomputable def uw5_ : FSpec := ⟨[.val ZZ16], [.val ZZ16], uq1_, true⟩
noncomputable def u8d_ : List (Nat × FSpec) := []
theorem ubip_ : FsOK Tryz.prog u8d_ := trivial
noncomputable def uut_ : CSpec := ⟨⟨[0], [.val ZZ16]⟩, [((.exit 0), ⟨[0], [.val ZZ16]⟩)], ([0] ++ seg 3 17), uwu_, []⟩
noncomputable def ubsu_ : Env := mkE u8d_ [(0, uut_)] [] true
theorem u2k_ : EnvOK Tryz.prog true ubsu_ := enk ubip_
noncomputable def urx_ : Code := u0_ Tryz.f317
theorem ubf8_ : CutOK Tryz.prog true Tryz.f317.ntmps uut_ (sub urx_ [1, 0, 0]) :=
 lok (body := sub urx_ [1, 0, 0, 0]) (n := 1) (l := []) u2k_ trivial
theorem u8e_ : uo_ Tryz.prog 317 ∧ FunOK Tryz.prog 317 uw5_ :=
 fnk (c := urx_) (l := [(uut_, sub urx_ [1, 0, 0])]) u2k_ Tryz.func317 ⟨⟨by kernel_rfl, ubf8_⟩, trivial⟩
noncomputable def unh_ : FSpec := ⟨[.val (.agg ZZ6)], [.val .str], uhv_, false⟩
noncomputable def uv5_ : List (Nat × FSpec) := [(103, ub1_), (161, ud1_), (302, uov_), (317, uw5_)]
theorem u6p_ : FsOK Tryz.prog uv5_ := ⟨ucb_, uef_, uyf_, u8e_, trivial⟩
noncomputable def ul5_ : CSpec := ⟨⟨[1, 3, 11], [.box (.val ZZ6), .val .str, .val .bool]⟩, [(.normal, ⟨[1, 3], [.box (.val ZZ6), .val .str]⟩)], [3, 12, 13, 14, 15], uh2_, []⟩
noncomputable def ul6_ : CSpec := ⟨⟨[3, 4, 21], [.val .str, .val ZZ16, .val .bool]⟩, [(.normal, ⟨[3], [.val .str]⟩)], [3, 22, 23, 24, 25, 26, 27], uh3_, []⟩
noncomputable def ul7_ : CSpec := ⟨⟨[1, 3, 30], [.box (.val ZZ6), .val .str, .val .bool]⟩, [(.normal, ⟨[1, 3], [.box (.val ZZ6), .val .str]⟩)], ([3] ++ seg 31 11), uh4_, []⟩
noncomputable def ul8_ : CSpec := ⟨⟨[1, 3, 44], [.box (.val ZZ6), .val .str, .val .bool]⟩, [(.normal, ⟨[1, 3], [.box (.val ZZ6), .val .str]⟩)], [3, 45, 46, 47, 48, 49, 50], uh5_, []⟩
noncomputable def ul9_ : CSpec := ⟨⟨[1, 3, 53], [.box (.val ZZ6), .val .str, .val .bool]⟩, [(.normal, ⟨[1, 3], [.box (.val ZZ6), .val .str]⟩)], [3, 54, 55, 56, 57, 58, 59], uh6_, []⟩
noncomputable def uma_ : CSpec := ⟨⟨[6, 7, 73], [.val .str, .val (.int .i64), .val .bool]⟩, [(.normal, ⟨[6], [.val .str]⟩)], [6, 74, 75], uh7_, []⟩
noncomputable def umb_ : CSpec := ⟨⟨[3, 61, 62, 63], [.val .str, .val (.slice .str), .val (.int .i64), .val (.int .i64)]⟩, [((.exit 0), ⟨[3], [.val .str]⟩)], ([3, 5, 6, 7, 8] ++ seg 63 24), um6_, []⟩
noncomputable def ubf9_ : Env := mkE uv5_ [(0, ul5_), (1, ul6_), (2, ul7_), (3, ul8_), (4, ul9_), (7, uma_), (5, umb_)] [] false
theorem ubu_ : EnvOK Tryz.prog false ubf9_ := enk u6p_
noncomputable def ui_ : Code := u0_ Tryz.f314
theorem u3p_ : CutOK Tryz.prog false Tryz.f314.ntmps ul5_ (sub ui_ [1, 1, 0, 1]) :=
 brk (c := up7_ (sub ui_ [1, 1, 0, 1])) (x := sub ui_ [1, 1, 0, 1, 0]) (y := sub ui_ [1, 1, 0, 1, 1]) (n := 0) (lx := []) (ly := []) ubu_ trivial trivial
theorem u3q_ : CutOK Tryz.prog false Tryz.f314.ntmps ul6_ (sub ui_ [1, 1, 1, 0, 1, 1]) :=
 brk (c := up7_ (sub ui_ [1, 1, 1, 0, 1, 1])) (x := sub ui_ [1, 1, 1, 0, 1, 1, 0]) (y := sub ui_ [1, 1, 1, 0, 1, 1, 1]) (n := 1) (lx := []) (ly := []) ubu_ trivial trivial
theorem u3r_ : CutOK Tryz.prog false Tryz.f314.ntmps ul7_ (sub ui_ [1, 1, 1, 1, 0, 1]) :=
 brk (c := up7_ (sub ui_ [1, 1, 1, 1, 0, 1])) (x := sub ui_ [1, 1, 1, 1, 0, 1, 0]) (y := sub ui_ [1, 1, 1, 1, 0, 1, 1]) (n := 2) (lx := []) (ly := []) ubu_ trivial trivial
theorem u3s_ : CutOK Tryz.prog false Tryz.f314.ntmps ul8_ (sub ui_ [1, 1, 1, 1, 1, 0, 1]) :=
 brk (c := up7_ (sub ui_ [1, 1, 1, 1, 1, 0, 1])) (x := sub ui_ [1, 1, 1, 1, 1, 0, 1, 0]) (y := sub ui_ [1, 1, 1, 1, 1, 0, 1, 1]) (n := 3) (lx := []) (ly := []) ubu_ trivial trivial
theorem u3t_ : CutOK Tryz.prog false Tryz.f314.ntmps ul9_ (sub ui_ [1, 1, 1, 1, 1, 1, 0, 1]) :=
 brk (c := up7_ (sub ui_ [1, 1, 1, 1, 1, 1, 0, 1])) (x := sub ui_ [1, 1, 1, 1, 1, 1, 0, 1, 0]) (y := sub ui_ [1, 1, 1, 1, 1, 1, 0, 1, 1]) (n := 4) (lx := []) (ly := []) ubu_ trivial trivial
theorem u3u_ : CutOK Tryz.prog false Tryz.f314.ntmps uma_ (sub ui_ [1, 1, 1, 1, 1, 1, 1, 0, 1, 0, 0, 1, 1, 0, 0, 1, 0, 1, 1]) :=
 brk (c := up7_ (sub ui_ [1, 1, 1, 1, 1, 1, 1, 0, 1, 0, 0, 1, 1, 0, 0, 1, 0, 1, 1])) (x := sub ui_ [1, 1, 1, 1, 1, 1, 1, 0, 1, 0, 0, 1, 1, 0, 0, 1, 0, 1, 1, 0]) (y := sub ui_ [1, 1, 1, 1, 1, 1, 1, 0, 1, 0, 0, 1, 1, 0, 0, 1, 0, 1, 1, 1]) (n := 7) (lx := []) (ly := []) ubu_ trivial trivial
theorem u3v_ : CutOK Tryz.prog false Tryz.f314.ntmps umb_ (sub ui_ [1, 1, 1, 1, 1, 1, 1, 0, 1, 0]) :=
 lok (body := sub ui_ [1, 1, 1, 1, 1, 1, 1, 0, 1, 0, 0]) (n := 6) (l := [(uma_, sub ui_ [1, 1, 1, 1, 1, 1, 1, 0, 1, 0, 0, 1, 1, 0, 0, 1, 0, 1, 1])]) ubu_ ⟨⟨by kernel_rfl, u3u_⟩, trivial⟩
theorem uv6_ : uo_ Tryz.prog 314 ∧ FunOK Tryz.prog 314 unh_ :=
 fnk (c := ui_) (l := [(ul5_, sub ui_ [1, 1, 0, 1]), (ul6_, sub ui_ [1, 1, 1, 0, 1, 1]), (ul7_, sub ui_ [1, 1, 1, 1, 0, 1]), (ul8_, sub ui_ [1, 1, 1, 1, 1, 0, 1]), (ul9_, sub ui_ [1, 1, 1, 1, 1, 1, 0, 1]), (umb_, sub ui_ [1, 1, 1, 1, 1, 1, 1, 0, 1, 0])]) ubu_ Tryz.func314 ⟨⟨by kernel_rfl, u3p_⟩, ⟨by kernel_rfl, u3q_⟩, ⟨by kernel_rfl, u3r_⟩, ⟨by kernel_rfl, u3s_⟩, ⟨by kernel_rfl, u3t_⟩, ⟨by kernel_rfl, u3v_⟩, trivial⟩
noncomputable def ujo_ : FSpec := ⟨[.val (.agg (.slice ZZ12))], [.val .str], ufu_, false⟩
noncomputable def urb_ : List (Nat × FSpec) := [(126, ujg_), (161, ud1_), (191, um3_)]
theorem u00_ : FsOK Tryz.prog urb_ := ⟨uou_, uef_, uq7_, trivial⟩
noncomputable def uio_ : CSpec := ⟨⟨[3, 7, 8, 9], [.own 9 .str false, .val (.slice ZZ12), .val (.int .i64), .val (.int .i64)]⟩, [((.exit 0), ⟨[3], [.own 9 .str false]⟩)], ([3, 5] ++ seg 9 25), ujk_, []⟩
noncomputable def u8f_ : Env := mkE urb_ [(0, uio_)] [] false
theorem uox_ : EnvOK Tryz.prog false u8f_ := enk u00_
noncomputable def ug8_ : Code := u0_ Tryz.f323
theorem uy6_ : CutOK Tryz.prog false Tryz.f323.ntmps uio_ (sub ug8_ [1, 1, 0, 1, 0]) :=
 lok (body := sub ug8_ [1, 1, 0, 1, 0, 0]) (n := 1) (l := []) uox_ trivial
theorem urc_ : uo_ Tryz.prog 323 ∧ FunOK Tryz.prog 323 ujo_ :=
 fnk (c := ug8_) (l := [(uio_, sub ug8_ [1, 1, 0, 1, 0])]) uox_ Tryz.func323 ⟨⟨by kernel_rfl, uy6_⟩, trivial⟩
noncomputable def uoy_ : FSpec := ⟨[.val (.agg (.int .i64))], [.val .str], ui4_, true⟩
noncomputable def uyi_ : List (Nat × FSpec) := [(161, ud1_)]
theorem u8g_ : FsOK Tryz.prog uyi_ := ⟨uef_, trivial⟩
noncomputable def ubiq_ : Env := mkE uyi_ [] [] true
theorem ubaz_ : EnvOK Tryz.prog true ubiq_ := enk u8g_
noncomputable def ubir_ : Code := u0_ Tryz.f329
theorem uyj_ : uo_ Tryz.prog 329 ∧ FunOK Tryz.prog 329 uoy_ :=
 fnk (c := ubir_) (l := []) ubaz_ Tryz.func329 trivial
noncomputable def u8h_ : FSpec := ⟨[.val ZZ1], [.val .str, .val (.int .i64)], uxj_, false⟩
noncomputable def u8i_ : List (Nat × FSpec) := [(299, une_), (306, ul4_), (314, unh_), (323, ujo_), (329, uoy_)]
theorem ubis_ : FsOK Tryz.prog u8i_ := ⟨uv1_, uus_, uv6_, urc_, uyj_, trivial⟩
noncomputable def ubsv_ : Env := mkE u8i_ [] [] false
theorem ublv_ : EnvOK Tryz.prog false ubsv_ := enk ubis_
noncomputable def ubsw_ : Code := u0_ Tryz.f97
theorem ubqk_ : uo_ Tryz.prog 97 ∧ FunOK Tryz.prog 97 u8h_ :=
 fnk (c := ubsw_) (l := []) ublv_ Tryz.func97 trivial
noncomputable def uoz_ : FSpec := ⟨[.val (.int .i64), .val .str], [.val .str, .val (.int .i64)], uog_, false⟩
noncomputable def ubga_ : List (Nat × FSpec) := [(31, uhp_), (97, u8h_)]
theorem ubn9_ : FsOK Tryz.prog ubga_ := ⟨ujn_, ubqk_, trivial⟩
noncomputable def ubwy_ : Env := mkE ubga_ [] [] false
theorem ubql_ : EnvOK Tryz.prog false ubwy_ := enk ubn9_
noncomputable def ubwz_ : Code := u0_ Tryz.f52
theorem uuu_ : uo_ Tryz.prog 52 ∧ FunOK Tryz.prog 52 uoz_ :=
 fnk (c := ubwz_) (l := []) ubql_ Tryz.func52 trivial
noncomputable def uv7_ : FSpec := ⟨[.val (.agg ZZ7)], [.val (.int .i64)], ulu_, false⟩
noncomputable def uv8_ : List (Nat × FSpec) := [(52, uoz_)]
theorem u6q_ : FsOK Tryz.prog uv8_ := ⟨uuu_, trivial⟩
noncomputable def umc_ : CSpec := ⟨⟨[1, 12, 13, 14], [.box (.val ZZ7), .val ZZ19, .val (.int .i64), .val (.int .i64)]⟩, [((.exit 0), ⟨[], []⟩), (.ret, ⟨[2], [.val (.int .i64)]⟩)], ([2, 4, 5, 6] ++ seg 14 30), um7_, []⟩
noncomputable def ubgb_ : Env := mkE uv8_ [(1, umc_)] [] false
theorem us5_ : EnvOK Tryz.prog false ubgb_ := enk u6q_
noncomputable def ujh_ : Code := u0_ Tryz.f51
theorem u3w_ : CutOK Tryz.prog false Tryz.f51.ntmps umc_ (sub ujh_ [1, 1, 0, 1, 0]) :=
 lok (body := sub ujh_ [1, 1, 0, 1, 0, 0]) (n := 2) (l := []) us5_ trivial
theorem ubds_ : uo_ Tryz.prog 51 ∧ FunOK Tryz.prog 51 uv7_ :=
 fnk (c := ujh_) (l := [(umc_, sub ujh_ [1, 1, 0, 1, 0])]) us5_ Tryz.func51 ⟨⟨by kernel_rfl, u3w_⟩, trivial⟩
noncomputable def urd_ : FSpec := ⟨[.val (.slice .str)], [.val (.int .i64)], uh8_, true⟩
noncomputable def ure_ : List (Nat × FSpec) := []
theorem u01_ : FsOK Tryz.prog ure_ := trivial
noncomputable def uip_ : CSpec := ⟨⟨[4, 5, 25, 26], [.val .str, .val .bool, .val (.int .i64), .val (.int .i64)]⟩, [((.exit 2), ⟨[5], [.val .bool]⟩)], ([5, 6] ++ seg 26 17), ujl_, []⟩
noncomputable def uiq_ : CSpec := ⟨⟨[0, 10, 11, 12], [.val (.slice .str), .val (.slice .str), .val (.int .i64), .val (.int .i64)]⟩, [((.exit 0), ⟨[], []⟩), (.ret, ⟨[2], [.val (.int .i64)]⟩)], ([2, 3, 4, 5, 6] ++ seg 12 46), ujm_, []⟩
noncomputable def u8j_ : Env := mkE ure_ [(3, uip_), (1, uiq_)] [] true
theorem uhz_ : EnvOK Tryz.prog true u8j_ := enk u01_
noncomputable def ucg_ : Code := u0_ Tryz.f53
theorem uy7_ : CutOK Tryz.prog true Tryz.f53.ntmps uip_ (sub ucg_ [1, 1, 0, 1, 0, 0, 1, 1, 0, 0, 1, 1, 0, 1, 0]) :=
 lok (body := sub ucg_ [1, 1, 0, 1, 0, 0, 1, 1, 0, 0, 1, 1, 0, 1, 0, 0]) (n := 4) (l := []) uhz_ trivial
theorem uy8_ : CutOK Tryz.prog true Tryz.f53.ntmps uiq_ (sub ucg_ [1, 1, 0, 1, 0]) :=
 lok (body := sub ucg_ [1, 1, 0, 1, 0, 0]) (n := 2) (l := [(uip_, sub ucg_ [1, 1, 0, 1, 0, 0, 1, 1, 0, 0, 1, 1, 0, 1, 0])]) uhz_ ⟨⟨by kernel_rfl, uy7_⟩, trivial⟩
theorem u6r_ : uo_ Tryz.prog 53 ∧ FunOK Tryz.prog 53 urd_ :=
 fnk (c := ucg_) (l := [(uiq_, sub ucg_ [1, 1, 0, 1, 0])]) uhz_ Tryz.func53 ⟨⟨by kernel_rfl, uy8_⟩, trivial⟩
noncomputable def us6_ : FSpec := ⟨[.val (.agg ZZ7)], [.val (.int .i64)], ui5_, false⟩
noncomputable def us7_ : List (Nat × FSpec) := [(50, ubce_), (51, uv7_), (52, uoz_), (53, urd_)]
theorem u2l_ : FsOK Tryz.prog us7_ := ⟨ubsj_, ubds_, uuu_, u6r_, trivial⟩
noncomputable def ujp_ : CSpec := ⟨⟨[1, 32, 33, 34], [.box (.val ZZ7), .val (.slice .str), .val (.int .i64), .val (.int .i64)]⟩, [((.exit 1), ⟨[1], [.box (.val ZZ7)]⟩), (.ret, ⟨[2], [.val (.int .i64)]⟩)], ([2, 5, 6, 7] ++ seg 34 15), ukf_, []⟩
noncomputable def uba0_ : Env := mkE us7_ [(4, ujp_)] [] false
theorem up2_ : EnvOK Tryz.prog false uba0_ := enk u2l_
noncomputable def uhm_ : Code := u0_ Tryz.f27
theorem u02_ : CutOK Tryz.prog false Tryz.f27.ntmps ujp_ (sub uhm_ [1, 1, 1, 1, 0, 1, 0]) :=
 lok (body := sub uhm_ [1, 1, 1, 1, 0, 1, 0, 0]) (n := 5) (l := []) up2_ trivial
theorem u8k_ : uo_ Tryz.prog 27 ∧ FunOK Tryz.prog 27 us6_ :=
 fnk (c := uhm_) (l := [(ujp_, sub uhm_ [1, 1, 1, 1, 0, 1, 0])]) up2_ Tryz.func27 ⟨⟨by kernel_rfl, u02_⟩, trivial⟩
noncomputable def ubcl_ : FSpec := ⟨[], [.val (.arr 4 (.int .i64))], u0s_, true⟩
noncomputable def ubcm_ : List (Nat × FSpec) := []
theorem ublw_ : FsOK Tryz.prog ubcm_ := trivial
noncomputable def ubvi_ : Env := mkE ubcm_ [] [] true
theorem uboa_ : EnvOK Tryz.prog true ubvi_ := enk ublw_
noncomputable def ubvj_ : Code := u0_ Tryz.f100
theorem ubsx_ : uo_ Tryz.prog 100 ∧ FunOK Tryz.prog 100 ubcl_ :=
 fnk (c := ubvj_) (l := []) uboa_ Tryz.func100 trivial
noncomputable def uo0_ : FSpec := ⟨[.val ZZ16, .val .str, .hof false (.int .i64) .str], [.val .str], ui6_, false⟩
noncomputable def uyk_ : List (Nat × FSpec) := [(120, ub0_), (122, ubt_)]
theorem u8l_ : FsOK Tryz.prog uyk_ := ⟨uct_, ucf_, trivial⟩
noncomputable def uni_ : CSpec := ⟨⟨[2, 7, 10, 11, 12], [.hof false (.int .i64) .str, .bld 5 false, .val ZZ16, .val (.int .i64), .val (.int .i64)]⟩, [((.exit 0), ⟨[7], [.bld 5 false]⟩)], ([9] ++ seg 12 9), uoh_, []⟩
noncomputable def ubit_ : Env := mkE uyk_ [(0, uni_)] [] false
theorem uuv_ : EnvOK Tryz.prog false ubit_ := enk u8l_
noncomputable def uj7_ : Code := u0_ Tryz.f303
theorem u6s_ : CutOK Tryz.prog false Tryz.f303.ntmps uni_ (sub uj7_ [1, 1, 0, 1, 0]) :=
 lok (body := sub uj7_ [1, 1, 0, 1, 0, 0]) (n := 1) (l := []) uuv_ trivial
theorem uyl_ : uo_ Tryz.prog 303 ∧ FunOK Tryz.prog 303 uo0_ :=
 fnk (c := uj7_) (l := [(uni_, sub uj7_ [1, 1, 0, 1, 0])]) uuv_ Tryz.func303 ⟨⟨by kernel_rfl, u6s_⟩, trivial⟩
noncomputable def uks_ : FSpec := ⟨[.val (.slice .str), .val .str, .hof false .str .str], [.val .str], ugn_, false⟩
noncomputable def us8_ : List (Nat × FSpec) := [(120, ub0_), (122, ubt_)]
theorem u2m_ : FsOK Tryz.prog us8_ := ⟨uct_, ucf_, trivial⟩
noncomputable def ujq_ : CSpec := ⟨⟨[2, 7, 10, 11, 12], [.hof false .str .str, .bld 5 false, .val (.slice .str), .val (.int .i64), .val (.int .i64)]⟩, [((.exit 0), ⟨[7], [.bld 5 false]⟩)], ([9] ++ seg 12 9), ukg_, []⟩
noncomputable def uba1_ : Env := mkE us8_ [(0, ujq_)] [] false
theorem up3_ : EnvOK Tryz.prog false uba1_ := enk u2m_
noncomputable def uhn_ : Code := u0_ Tryz.f304
theorem u03_ : CutOK Tryz.prog false Tryz.f304.ntmps ujq_ (sub uhn_ [1, 1, 0, 1, 0]) :=
 lok (body := sub uhn_ [1, 1, 0, 1, 0, 0]) (n := 1) (l := []) up3_ trivial
theorem us9_ : uo_ Tryz.prog 304 ∧ FunOK Tryz.prog 304 uks_ :=
 fnk (c := uhn_) (l := [(ujq_, sub uhn_ [1, 1, 0, 1, 0])]) up3_ Tryz.func304 ⟨⟨by kernel_rfl, u03_⟩, trivial⟩
noncomputable def u8m_ : FSpec := ⟨[.val .str], [.val .str], uxk_, false⟩
noncomputable def u8n_ : List (Nat × FSpec) := [(103, ub1_), (160, ud2_)]
theorem ubiu_ : FsOK Tryz.prog u8n_ := ⟨ucb_, ueg_, trivial⟩
noncomputable def ubsy_ : Env := mkE u8n_ [] [] false
theorem ublx_ : EnvOK Tryz.prog false ubsy_ := enk ubiu_
noncomputable def ubsz_ : Code := u0_ Tryz.f305
theorem ubqm_ : uo_ Tryz.prog 305 ∧ FunOK Tryz.prog 305 u8m_ :=
 fnk (c := ubsz_) (l := []) ublx_ Tryz.func305 trivial
noncomputable def ufn_ : FSpec := ⟨[.val (.agg (.prod (.arr 3 (.int .i64)) (.slice .str)))], [.val .str], uc7_, false⟩
noncomputable def u0c_ : List (Nat × FSpec) := [(160, ud2_), (303, uo0_), (304, uks_), (305, u8m_)]
theorem uba2_ : FsOK Tryz.prog u0c_ := ⟨ueg_, uyl_, us9_, ubqm_, trivial⟩
noncomputable def ubly_ : Env := mkE u0c_ [] [] false
theorem ubdt_ : EnvOK Tryz.prog false ubly_ := enk uba2_
noncomputable def ublz_ : Code := u0_ Tryz.f300
theorem uhg_ : uo_ Tryz.prog 300 ∧ FunOK Tryz.prog 300 ufn_ :=
 fnk (c := ublz_) (l := []) ubdt_ Tryz.func300 trivial
noncomputable def uew_ : FSpec := ⟨[.val (.agg ZZ14)], [.val .str], uch_, false⟩
noncomputable def uym_ : List (Nat × FSpec) := [(160, ud2_), (310, uqp_), (311, ung_)]
theorem u8o_ : FsOK Tryz.prog uym_ := ⟨ueg_, u0b_, uv3_, trivial⟩
noncomputable def ubiv_ : Env := mkE uym_ [] [] false
theorem uba3_ : EnvOK Tryz.prog false ubiv_ := enk u8o_
noncomputable def ubiw_ : Code := u0_ Tryz.f307
theorem ugq_ : uo_ Tryz.prog 307 ∧ FunOK Tryz.prog 307 uew_ :=
 fnk (c := ubiw_) (l := []) uba3_ Tryz.func307 trivial
noncomputable def uuw_ : FSpec := ⟨[.val (.int .i64)], [.val .str], uj0_, false⟩
noncomputable def uux_ : List (Nat × FSpec) := [(160, ud2_)]
theorem u3x_ : FsOK Tryz.prog uux_ := ⟨ueg_, trivial⟩
noncomputable def ubdu_ : Env := mkE uux_ [] [] false
theorem u6t_ : EnvOK Tryz.prog false ubdu_ := enk u3x_
noncomputable def ubdv_ : Code := u0_ Tryz.f318
theorem uba4_ : uo_ Tryz.prog 318 ∧ FunOK Tryz.prog 318 uuw_ :=
 fnk (c := ubdv_) (l := []) u6t_ Tryz.func318 trivial
noncomputable def uv9_ : FSpec := ⟨[.val (.agg ZZ6)], [.val (.int .i64)], ulv_, true⟩
noncomputable def uwa_ : List (Nat × FSpec) := []
theorem u6u_ : FsOK Tryz.prog uwa_ := trivial
noncomputable def ubgc_ : Env := mkE uwa_ [] [] true
theorem u8p_ : EnvOK Tryz.prog true ubgc_ := enk u6u_
noncomputable def ubgd_ : Code := u0_ Tryz.f319
theorem ubdw_ : uo_ Tryz.prog 319 ∧ FunOK Tryz.prog 319 uv9_ :=
 fnk (c := ubgd_) (l := []) u8p_ Tryz.func319 trivial
noncomputable def ubge_ : FSpec := ⟨[.val (.int .i64)], [.val .str], u4t_, false⟩
noncomputable def ubgf_ : List (Nat × FSpec) := [(160, ud2_)]
theorem ubob_ : FsOK Tryz.prog ubgf_ := ⟨ueg_, trivial⟩
noncomputable def ubw0_ : Env := mkE ubgf_ [] [] false
theorem ubqn_ : EnvOK Tryz.prog false ubw0_ := enk ubob_
noncomputable def ubw1_ : Code := u0_ Tryz.f320
theorem ubvk_ : uo_ Tryz.prog 320 ∧ FunOK Tryz.prog 320 ubge_ :=
 fnk (c := ubw1_) (l := []) ubqn_ Tryz.func320 trivial
noncomputable def u5h_ : FSpec := ⟨[.val .str], [.val .str], ut1_, false⟩
noncomputable def u5i_ : List (Nat × FSpec) := [(103, ub1_), (160, ud2_)]
theorem ubgg_ : FsOK Tryz.prog u5i_ := ⟨ucb_, ueg_, trivial⟩
noncomputable def ubqo_ : Env := mkE u5i_ [] [] false
theorem ubix_ : EnvOK Tryz.prog false ubqo_ := enk ubgg_
noncomputable def ubqp_ : Code := u0_ Tryz.f321
theorem uboc_ : uo_ Tryz.prog 321 ∧ FunOK Tryz.prog 321 u5h_ :=
 fnk (c := ubqp_) (l := []) ubix_ Tryz.func321 trivial
noncomputable def ufo_ : FSpec := ⟨[.val (.agg ZZ6)], [.val .str], uc8_, false⟩
noncomputable def u0d_ : List (Nat × FSpec) := [(160, ud2_), (161, ud1_), (303, uo0_), (304, uks_), (317, uw5_), (318, uuw_), (319, uv9_), (320, ubge_), (321, u5h_)]
theorem uba5_ : FsOK Tryz.prog u0d_ := ⟨ueg_, uef_, uyl_, us9_, u8e_, uba4_, ubdw_, ubvk_, uboc_, trivial⟩
noncomputable def uo1_ : CSpec := ⟨⟨[1, 3, 27], [.box (.val ZZ6), .val .str, .val .bool]⟩, [(.normal, ⟨[1, 3], [.box (.val ZZ6), .val .str]⟩)], ([3] ++ seg 28 8), uj1_, []⟩
noncomputable def ubl0_ : Env := mkE u0d_ [(0, uo1_)] [] false
theorem uwb_ : EnvOK Tryz.prog false ubl0_ := enk uba5_
noncomputable def ugb_ : Code := u0_ Tryz.f315
theorem u8q_ : CutOK Tryz.prog false Tryz.f315.ntmps uo1_ (sub ugb_ [1, 1, 1, 0, 1]) :=
 brk (c := up7_ (sub ugb_ [1, 1, 1, 0, 1])) (x := sub ugb_ [1, 1, 1, 0, 1, 0]) (y := sub ugb_ [1, 1, 1, 0, 1, 1]) (n := 0) (lx := []) (ly := []) uwb_ trivial trivial
theorem uhh_ : uo_ Tryz.prog 315 ∧ FunOK Tryz.prog 315 ufo_ :=
 fnk (c := ugb_) (l := [(uo1_, sub ugb_ [1, 1, 1, 0, 1])]) uwb_ Tryz.func315 ⟨⟨by kernel_rfl, u8q_⟩, trivial⟩
noncomputable def u2n_ : FSpec := ⟨[], [.val (.slice .str)], uxy_, true⟩
noncomputable def ubgh_ : List (Nat × FSpec) := []
theorem ubod_ : FsOK Tryz.prog ubgh_ := trivial
noncomputable def ubw2_ : Env := mkE ubgh_ [] [] true
theorem ubqq_ : EnvOK Tryz.prog true ubw2_ := enk ubod_
noncomputable def ubw3_ : Code := u0_ Tryz.f328
theorem ubgi_ : uo_ Tryz.prog 328 ∧ FunOK Tryz.prog 328 u2n_ :=
 fnk (c := ubw3_) (l := []) ubqq_ Tryz.func328 trivial
noncomputable def uo2_ : FSpec := ⟨[.val (.slice .str), .val .str], [.val (.int .i64)], ugz_, true⟩
noncomputable def uyn_ : List (Nat × FSpec) := []
theorem u8r_ : FsOK Tryz.prog uyn_ := trivial
noncomputable def unj_ : CSpec := ⟨⟨[0, 1, 7, 8], [.val (.slice .str), .val .str, .val (.int .i64), .val (.int .i64)]⟩, [((.exit 0), ⟨[], []⟩), (.ret, ⟨[4], [.val (.int .i64)]⟩)], ([4, 5] ++ seg 8 11), uoj_, []⟩
noncomputable def ubiy_ : Env := mkE uyn_ [(0, unj_)] [] true
theorem uuy_ : EnvOK Tryz.prog true ubiy_ := enk u8r_
noncomputable def uj8_ : Code := u0_ Tryz.f24
theorem u6v_ : CutOK Tryz.prog true Tryz.f24.ntmps unj_ (sub uj8_ [1, 0, 1, 0]) :=
 lok (body := sub uj8_ [1, 0, 1, 0, 0]) (n := 1) (l := []) uuy_ trivial
theorem uyo_ : uo_ Tryz.prog 24 ∧ FunOK Tryz.prog 24 uo2_ :=
 fnk (c := uj8_) (l := [(unj_, sub uj8_ [1, 0, 1, 0])]) uuy_ Tryz.func24 ⟨⟨by kernel_rfl, u6v_⟩, trivial⟩
noncomputable def ukt_ : FSpec := ⟨[.val (.slice .str), .val .str], [.val .bool], uds_, true⟩
noncomputable def uta_ : List (Nat × FSpec) := [(24, uo2_)]
theorem u2o_ : FsOK Tryz.prog uta_ := ⟨uyo_, trivial⟩
noncomputable def uba6_ : Env := mkE uta_ [] [] true
theorem u3y_ : EnvOK Tryz.prog true uba6_ := enk u2o_
noncomputable def uba7_ : Code := u0_ Tryz.f9
theorem utb_ : uo_ Tryz.prog 9 ∧ FunOK Tryz.prog 9 ukt_ :=
 fnk (c := uba7_) (l := []) u3y_ Tryz.func9 trivial
noncomputable def unk_ : FSpec := ⟨[.val ZZ12], [.val .bool], uhw_, true⟩
noncomputable def uwc_ : List (Nat × FSpec) := [(9, ukt_), (328, u2n_)]
theorem u6w_ : FsOK Tryz.prog uwc_ := ⟨utb_, ubgi_, trivial⟩
noncomputable def ubgj_ : Env := mkE uwc_ [] [] true
theorem u8s_ : EnvOK Tryz.prog true ubgj_ := enk u6w_
noncomputable def ubgk_ : Code := u0_ Tryz.f326
theorem uwd_ : uo_ Tryz.prog 326 ∧ FunOK Tryz.prog 326 unk_ :=
 fnk (c := ubgk_) (l := []) u8s_ Tryz.func326 trivial
noncomputable def u5j_ : FSpec := ⟨[.val ZZ12], [.val .str], uok_, false⟩
noncomputable def u5k_ : List (Nat × FSpec) := [(24, uo2_), (160, ud2_), (161, ud1_), (326, unk_), (328, u2n_)]
theorem ubgl_ : FsOK Tryz.prog u5k_ := ⟨uyo_, ueg_, uef_, uwd_, ubgi_, trivial⟩
noncomputable def ubqr_ : Env := mkE u5k_ [] [] false
theorem ubiz_ : EnvOK Tryz.prog false ubqr_ := enk ubgl_
noncomputable def ubqs_ : Code := u0_ Tryz.f327
theorem uboe_ : uo_ Tryz.prog 327 ∧ FunOK Tryz.prog 327 u5j_ :=
 fnk (c := ubqs_) (l := []) ubiz_ Tryz.func327 trivial
noncomputable def uea_ : FSpec := ⟨[.val (.agg (.slice ZZ12))], [.val .str], ubv_, false⟩
noncomputable def uuz_ : List (Nat × FSpec) := [(126, ujg_), (161, ud1_), (326, unk_), (327, u5j_)]
theorem u3z_ : FsOK Tryz.prog uuz_ := ⟨uou_, uef_, uwd_, uboe_, trivial⟩
noncomputable def uku_ : CSpec := ⟨⟨[3, 4, 8, 9, 10], [.val .str, .val (.int .i64), .val (.slice ZZ12), .val (.int .i64), .val (.int .i64)]⟩, [((.exit 0), ⟨[3], [.val .str]⟩)], ([3, 4, 6] ++ seg 10 31), ulw_, []⟩
noncomputable def ubdx_ : Env := mkE uuz_ [(0, uku_)] [] false
theorem urf_ : EnvOK Tryz.prog false ubdx_ := enk u3z_
noncomputable def uib_ : Code := u0_ Tryz.f324
theorem u2p_ : CutOK Tryz.prog false Tryz.f324.ntmps uku_ (sub uib_ [1, 1, 0, 1, 0]) :=
 lok (body := sub uib_ [1, 1, 0, 1, 0, 0]) (n := 1) (l := []) urf_ trivial
theorem ufi_ : uo_ Tryz.prog 324 ∧ FunOK Tryz.prog 324 uea_ :=
 fnk (c := uib_) (l := [(uku_, sub uib_ [1, 1, 0, 1, 0])]) urf_ Tryz.func324 ⟨⟨by kernel_rfl, u2p_⟩, trivial⟩
noncomputable def ugc_ : FSpec := ⟨[.val (.agg (.int .i64))], [.val .str], ud0_, false⟩
noncomputable def u2q_ : List (Nat × FSpec) := [(160, ud2_)]
theorem ubdy_ : FsOK Tryz.prog u2q_ := ⟨ueg_, trivial⟩
noncomputable def ubof_ : Env := mkE u2q_ [] [] false
theorem ubgm_ : EnvOK Tryz.prog false ubof_ := enk ubdy_
noncomputable def ubog_ : Code := u0_ Tryz.f330
theorem uh0_ : uo_ Tryz.prog 330 ∧ FunOK Tryz.prog 330 ugc_ :=
 fnk (c := ubog_) (l := []) ubgm_ Tryz.func330 trivial
noncomputable def uba8_ : FSpec := ⟨[.val (.int .i64), .val .str], [.val .str, .val (.int .i64)], upg_, false⟩
noncomputable def uboh_ : List (Nat × FSpec) := [(31, uhp_), (300, ufn_), (307, uew_), (315, ufo_), (324, uea_), (330, ugc_)]
theorem ubs0_ : FsOK Tryz.prog uboh_ := ⟨ujn_, uhg_, ugq_, uhh_, ufi_, uh0_, trivial⟩
noncomputable def ub0v_ : Env := mkE uboh_ [] [] false
theorem ubvl_ : EnvOK Tryz.prog false ub0v_ := enk ubs0_
noncomputable def ub0w_ : Code := u0_ Tryz.f26
theorem uboi_ : uo_ Tryz.prog 26 ∧ FunOK Tryz.prog 26 uba8_ :=
 fnk (c := ub0w_) (l := []) ubvl_ Tryz.func26 trivial
noncomputable def uex_ : FSpec := ⟨[.io 128 ZZ3, .val (.int .i64), .val (.int .i64), .hof false ZZ22 (.int .i64)], [], ube_, false⟩
noncomputable def uey_ : List (Nat × FSpec) := []
theorem uji_ : FsOK Tryz.prog uey_ := trivial
noncomputable def ub8_ : CSpec := ⟨⟨[0, 1, 3, 9], [.own 128 ZZ3 true, .val (.int .i64), .hof false ZZ22 (.int .i64), .val (.int .i64)]⟩, [((.exit 2), ⟨[0], [.own 128 ZZ3 true]⟩)], ([9] ++ seg 18 35), ucd_, []⟩
noncomputable def ub9_ : CSpec := ⟨⟨[0, 1, 2, 3, 8], [.own 128 ZZ3 true, .val (.int .i64), .val (.int .i64), .hof false ZZ22 (.int .i64), .val (.int .i64)]⟩, [((.exit 0), ⟨[0], [.own 128 ZZ3 true]⟩)], ([8, 9] ++ seg 12 41), uce_, []⟩
noncomputable def ula_ : Env := mkE uey_ [(2, ub8_), (0, ub9_)] [] false
theorem ub5_ : EnvOK Tryz.prog false ula_ := enk uji_
noncomputable def uz_ : Code := u0_ Tryz.f212
theorem uir_ : CutOK Tryz.prog false Tryz.f212.ntmps ub8_ (sub uz_ [1, 0, 0, 1, 0, 0, 1, 0]) :=
 lok (body := sub uz_ [1, 0, 0, 1, 0, 0, 1, 0, 0]) (n := 3) (l := []) ub5_ trivial
theorem uis_ : CutOK Tryz.prog false Tryz.f212.ntmps ub9_ (sub uz_ [1, 0]) :=
 lok (body := sub uz_ [1, 0, 0]) (n := 1) (l := [(ub8_, sub uz_ [1, 0, 0, 1, 0, 0, 1, 0])]) ub5_ ⟨⟨by kernel_rfl, uir_⟩, trivial⟩
theorem ukv_ : uo_ Tryz.prog 212 ∧ FunOK Tryz.prog 212 uex_ :=
 fnk (c := uz_) (l := [(ub9_, sub uz_ [1, 0])]) ub5_ Tryz.func212 ⟨⟨by kernel_rfl, uis_⟩, trivial⟩
noncomputable def ufy_ : FSpec := ⟨[.io 128 ZZ3, .val (.int .i64), .val (.int .i64), .val (.int .i64), .hof false ZZ22 (.int .i64)], [], ubc_, true⟩
noncomputable def ufz_ : List (Nat × FSpec) := []
theorem ulb_ : FsOK Tryz.prog ufz_ := trivial
noncomputable def ucu_ : CSpec := ⟨⟨[0, 1, 2, 3, 10], [.own 128 ZZ3 true, .val (.int .i64), .val (.int .i64), .val (.int .i64), .val (.int .i64)]⟩, [((.exit 0), ⟨[0], [.own 128 ZZ3 true]⟩)], (seg 10 28), uc9_, []⟩
noncomputable def un6_ : Env := mkE ufz_ [(0, ucu_)] [] true
theorem ufj_ : EnvOK Tryz.prog true un6_ := enk ulb_
noncomputable def ubw_ : Code := u0_ Tryz.f265
theorem ukw_ : CutOK Tryz.prog true Tryz.f265.ntmps ucu_ (sub ubw_ [1, 0]) :=
 lok (body := sub ubw_ [1, 0, 0]) (n := 1) (l := []) ufj_ trivial
theorem unl_ : uo_ Tryz.prog 265 ∧ FunOK Tryz.prog 265 ufy_ :=
 fnk (c := ubw_) (l := [(ucu_, sub ubw_ [1, 0])]) ufj_ Tryz.func265 ⟨⟨by kernel_rfl, ukw_⟩, trivial⟩
noncomputable def ug9_ : FSpec := ⟨[.io 128 ZZ3, .val (.int .i64), .val (.int .i64), .val (.int .i64), .hof false ZZ22 (.int .i64)], [], ucn_, true⟩
noncomputable def uha_ : List (Nat × FSpec) := [(265, ufy_)]
theorem unm_ : FsOK Tryz.prog uha_ := ⟨unl_, trivial⟩
noncomputable def udw_ : CSpec := ⟨⟨[0, 2, 4, 10, 11], [.own 128 ZZ3 true, .val (.int .i64), .hof false ZZ22 (.int .i64), .val (.int .i64), .val (.int .i64)]⟩, [((.exit 0), ⟨[0, 10], [.own 128 ZZ3 true, .val (.int .i64)]⟩)], ([10, 11] ++ seg 18 32), ud5_, []⟩
noncomputable def uqq_ : Env := mkE uha_ [(0, udw_)] [] true
theorem ugi_ : EnvOK Tryz.prog true uqq_ := enk unm_
noncomputable def uca_ : Code := u0_ Tryz.f243
theorem ump_ : CutOK Tryz.prog true Tryz.f243.ntmps udw_ (sub uca_ [1, 1, 0, 0]) :=
 lok (body := sub uca_ [1, 1, 0, 0, 0]) (n := 1) (l := []) ugi_ trivial
theorem upr_ : uo_ Tryz.prog 243 ∧ FunOK Tryz.prog 243 ug9_ :=
 fnk (c := uca_) (l := [(udw_, sub uca_ [1, 1, 0, 0])]) ugi_ Tryz.func243 ⟨⟨by kernel_rfl, ump_⟩, trivial⟩
noncomputable def uk_ (n : Nat) : FSpec := ⟨[.io 128 ZZ3, .val (.int .i64), .val (.int .i64), .val (.int .i64), .hof false ZZ22 (.int .i64)], [], ul_ n, false⟩
noncomputable def ugj_ : FSpec := ⟨[.io 128 ZZ3, .val (.int .i64), .val (.int .i64), .val (.int .i64), .hof false ZZ22 (.int .i64)], [], ubl_, false⟩
noncomputable def ugk_ (n : Nat) : List (Nat × FSpec) := [(213, (uk_ n)), (243, ug9_)]
theorem umd_ (n : Nat) (ih : uo_ Tryz.prog 213 ∧ FunOK Tryz.prog 213 (uk_ n)) : FsOK Tryz.prog (ugk_ n) := ⟨ih, upr_, trivial⟩
noncomputable def udc_ (n : Nat) : CSpec := ⟨⟨[0, 1, 4, 10, 11], [.own 128 ZZ3 true, .val (.int .i64), .hof false ZZ22 (.int .i64), .val (.int .i64), .val (.int .i64)]⟩, [((.exit 0), ⟨[0, 10], [.own 128 ZZ3 true, .val (.int .i64)]⟩)], ([10, 11, 12] ++ seg 31 23), (udm_ (ul_ n)), []⟩
noncomputable def udd_ (n : Nat) : CSpec := ⟨⟨[0, 10, 13], [.own 128 ZZ3 true, .val (.int .i64), .val (.int .i64)]⟩, [((.exit 2), ⟨[0], [.own 128 ZZ3 true]⟩)], ([13] ++ seg 55 22), (udn_ (ul_ n)), []⟩
noncomputable def ude_ (n : Nat) : CSpec := ⟨⟨[0, 2, 4, 14, 15], [.own 128 ZZ3 true, .val (.int .i64), .hof false ZZ22 (.int .i64), .val (.int .i64), .val (.int .i64)]⟩, [((.exit 4), ⟨[0, 14], [.own 128 ZZ3 true, .val (.int .i64)]⟩)], ([14, 15, 16] ++ seg 83 24), (udo_ (ul_ n)), []⟩
noncomputable def ucv_ (n : Nat) : CSpec := ⟨⟨[0, 14, 17], [.own 128 ZZ3 true, .val (.int .i64), .val (.int .i64)]⟩, [((.exit 6), ⟨[0], [.own 128 ZZ3 true]⟩)], ([17] ++ seg 108 21), (uda_ (ul_ n)), []⟩
noncomputable def ucw_ (n : Nat) : CSpec := ⟨⟨[1, 2, 3, 18, 19, 140], [.val (.int .i64), .val (.int .i64), .val (.int .i64), .val (.int .i64), .val (.int .i64), .val .bool]⟩, [(.normal, ⟨[20, 21], [.val (.int .i64), .val (.int .i64)]⟩)], [20, 21, 141, 142, 143, 144, 145, 146], (ubq_ (ul_ n)), []⟩
noncomputable def ucx_ (n : Nat) : CSpec := ⟨⟨[0, 4, 20, 21, 22], [.own 128 ZZ3 true, .hof false ZZ22 (.int .i64), .val (.int .i64), .val (.int .i64), .val (.int .i64)]⟩, [((.exit 8), ⟨[0, 20], [.own 128 ZZ3 true, .val (.int .i64)]⟩)], ([20, 21, 23] ++ seg 149 26), (udb_ (ul_ n)), []⟩
noncomputable def ucy_ (n : Nat) : CSpec := ⟨⟨[0, 2, 4, 20, 24, 185], [.own 128 ZZ3 true, .val (.int .i64), .hof false ZZ22 (.int .i64), .val (.int .i64), .val (.int .i64), .val .bool]⟩, [(.normal, ⟨[0], [.own 128 ZZ3 true]⟩)], [186, 187, 188, 189, 190, 191], (ubr_ (ul_ n)), []⟩
noncomputable def ucz_ (n : Nat) : CSpec := ⟨⟨[0, 1, 4, 18, 20, 199], [.own 128 ZZ3 true, .val (.int .i64), .hof false ZZ22 (.int .i64), .val (.int .i64), .val (.int .i64), .val .bool]⟩, [(.normal, ⟨[0], [.own 128 ZZ3 true]⟩)], [200, 201, 202, 203, 204, 205], (ubs_ (ul_ n)), []⟩
noncomputable def uo3_ (n : Nat) : Env := mkE (ugk_ n) [(1, (udc_ n)), (4, (udd_ n)), (7, (ude_ n)), (10, (ucv_ n)), (12, (ucw_ n)), (13, (ucx_ n)), (16, (ucy_ n)), (17, (ucz_ n))] [] false
theorem us_ (n : Nat) (ih : uo_ Tryz.prog 213 ∧ FunOK Tryz.prog 213 (uk_ n)) : EnvOK Tryz.prog false (uo3_ n) := enk (umd_ n ih)
noncomputable def uc_ : Code := u0_ Tryz.f213
theorem ulc_ (n : Nat) (ih : uo_ Tryz.prog 213 ∧ FunOK Tryz.prog 213 (uk_ n)) : CutOK Tryz.prog false Tryz.f213.ntmps (udc_ n) (sub uc_ [0, 1, 0, 1, 1, 0, 0]) :=
 lok (body := sub uc_ [0, 1, 0, 1, 1, 0, 0, 0]) (n := 2) (l := []) (us_ n ih) trivial
theorem uld_ (n : Nat) (ih : uo_ Tryz.prog 213 ∧ FunOK Tryz.prog 213 (uk_ n)) : CutOK Tryz.prog false Tryz.f213.ntmps (udd_ n) (sub uc_ [0, 1, 0, 1, 1, 1, 0, 1, 0]) :=
 lok (body := sub uc_ [0, 1, 0, 1, 1, 1, 0, 1, 0, 0]) (n := 5) (l := []) (us_ n ih) trivial
theorem ule_ (n : Nat) (ih : uo_ Tryz.prog 213 ∧ FunOK Tryz.prog 213 (uk_ n)) : CutOK Tryz.prog false Tryz.f213.ntmps (ude_ n) (sub uc_ [1, 0, 1, 0, 1, 1, 0, 0]) :=
 lok (body := sub uc_ [1, 0, 1, 0, 1, 1, 0, 0, 0]) (n := 8) (l := []) (us_ n ih) trivial
theorem ukx_ (n : Nat) (ih : uo_ Tryz.prog 213 ∧ FunOK Tryz.prog 213 (uk_ n)) : CutOK Tryz.prog false Tryz.f213.ntmps (ucv_ n) (sub uc_ [1, 0, 1, 0, 1, 1, 1, 0, 1, 0]) :=
 lok (body := sub uc_ [1, 0, 1, 0, 1, 1, 1, 0, 1, 0, 0]) (n := 11) (l := []) (us_ n ih) trivial
theorem uky_ (n : Nat) (ih : uo_ Tryz.prog 213 ∧ FunOK Tryz.prog 213 (uk_ n)) : CutOK Tryz.prog false Tryz.f213.ntmps (ucw_ n) (sub uc_ [1, 1, 1, 1, 1, 0, 1]) :=
 brk (c := up7_ (sub uc_ [1, 1, 1, 1, 1, 0, 1])) (x := sub uc_ [1, 1, 1, 1, 1, 0, 1, 0]) (y := sub uc_ [1, 1, 1, 1, 1, 0, 1, 1]) (n := 12) (lx := []) (ly := []) (us_ n ih) trivial trivial
theorem ukz_ (n : Nat) (ih : uo_ Tryz.prog 213 ∧ FunOK Tryz.prog 213 (uk_ n)) : CutOK Tryz.prog false Tryz.f213.ntmps (ucx_ n) (sub uc_ [1, 1, 1, 1, 1, 1, 1, 0, 0]) :=
 lok (body := sub uc_ [1, 1, 1, 1, 1, 1, 1, 0, 0, 0]) (n := 14) (l := []) (us_ n ih) trivial
theorem uk0_ (n : Nat) (ih : uo_ Tryz.prog 213 ∧ FunOK Tryz.prog 213 (uk_ n)) : CutOK Tryz.prog false Tryz.f213.ntmps (ucy_ n) (sub uc_ [1, 1, 1, 1, 1, 1, 1, 1, 1, 0, 1]) :=
 brk (c := up7_ (sub uc_ [1, 1, 1, 1, 1, 1, 1, 1, 1, 0, 1])) (x := sub uc_ [1, 1, 1, 1, 1, 1, 1, 1, 1, 0, 1, 0]) (y := sub uc_ [1, 1, 1, 1, 1, 1, 1, 1, 1, 0, 1, 1]) (n := 16) (lx := []) (ly := []) (us_ n ih) trivial trivial
theorem uk1_ (n : Nat) (ih : uo_ Tryz.prog 213 ∧ FunOK Tryz.prog 213 (uk_ n)) : CutOK Tryz.prog false Tryz.f213.ntmps (ucz_ n) (sub uc_ [1, 1, 1, 1, 1, 1, 1, 1, 1, 1, 0, 1]) :=
 brk (c := up7_ (sub uc_ [1, 1, 1, 1, 1, 1, 1, 1, 1, 1, 0, 1])) (x := sub uc_ [1, 1, 1, 1, 1, 1, 1, 1, 1, 1, 0, 1, 0]) (y := sub uc_ [1, 1, 1, 1, 1, 1, 1, 1, 1, 1, 0, 1, 1]) (n := 17) (lx := []) (ly := []) (us_ n ih) trivial trivial
theorem umq_ (n : Nat) (ih : uo_ Tryz.prog 213 ∧ FunOK Tryz.prog 213 (uk_ n)) : uo_ Tryz.prog 213 ∧ FunOK Tryz.prog 213 (uk_ (n + 1)) :=
 fnk (c := uc_) (l := [((udc_ n), sub uc_ [0, 1, 0, 1, 1, 0, 0]), ((udd_ n), sub uc_ [0, 1, 0, 1, 1, 1, 0, 1, 0]), ((ude_ n), sub uc_ [1, 0, 1, 0, 1, 1, 0, 0]), ((ucv_ n), sub uc_ [1, 0, 1, 0, 1, 1, 1, 0, 1, 0]), ((ucw_ n), sub uc_ [1, 1, 1, 1, 1, 0, 1]), ((ucx_ n), sub uc_ [1, 1, 1, 1, 1, 1, 1, 0, 0]), ((ucy_ n), sub uc_ [1, 1, 1, 1, 1, 1, 1, 1, 1, 0, 1]), ((ucz_ n), sub uc_ [1, 1, 1, 1, 1, 1, 1, 1, 1, 1, 0, 1])]) (us_ n ih) Tryz.func213 ⟨⟨by kernel_rfl, (ulc_ n ih)⟩, ⟨by kernel_rfl, (uld_ n ih)⟩, ⟨by kernel_rfl, (ule_ n ih)⟩, ⟨by kernel_rfl, (ukx_ n ih)⟩, ⟨by kernel_rfl, (uky_ n ih)⟩, ⟨by kernel_rfl, (ukz_ n ih)⟩, ⟨by kernel_rfl, (uk0_ n ih)⟩, ⟨by kernel_rfl, (uk1_ n ih)⟩, trivial⟩
theorem umr_ : ∀ n, uo_ Tryz.prog 213 ∧ FunOK Tryz.prog 213 (uk_ n) := fun n => Nat.rec ⟨⟨Tryz.f213, uc_, Tryz.func213, by kernel_rfl, by kernel_rfl⟩, fun w I v args bs _ _ _ r hr => by cases hr⟩ (fun n ih => umq_ n ih) n
theorem un7_ : uo_ Tryz.prog 213 ∧ FunOK Tryz.prog 213 ugj_ := umr_ 100
noncomputable def uhb_ : FSpec := ⟨[.io 128 ZZ3, .val (.int .i64), .hof false ZZ22 (.int .i64)], [], uco_, false⟩
noncomputable def uhc_ : List (Nat × FSpec) := [(212, uex_), (213, ugj_)]
theorem unn_ : FsOK Tryz.prog uhc_ := ⟨ukv_, un7_, trivial⟩
noncomputable def udx_ : CSpec := ⟨⟨[0, 1, 2, 6, 7, 8], [.own 128 ZZ3 true, .val (.int .i64), .hof false ZZ22 (.int .i64), .val (.int .i64), .val (.int .i64), .val (.int .i64)]⟩, [((.exit 0), ⟨[0, 7], [.own 128 ZZ3 true, .val (.int .i64)]⟩)], ([7, 8] ++ seg 11 12), ud6_, []⟩
noncomputable def udy_ : CSpec := ⟨⟨[0, 1, 2, 6, 7, 8], [.own 128 ZZ3 true, .val (.int .i64), .hof false ZZ22 (.int .i64), .val (.int .i64), .val (.int .i64), .val (.int .i64)]⟩, [((.exit 4), ⟨[0, 7], [.own 128 ZZ3 true, .val (.int .i64)]⟩)], ([7, 8] ++ seg 33 16), ud7_, []⟩
noncomputable def udz_ : CSpec := ⟨⟨[0, 1, 2, 6], [.own 128 ZZ3 true, .val (.int .i64), .hof false ZZ22 (.int .i64), .val (.int .i64)]⟩, [((.exit 2), ⟨[0], [.own 128 ZZ3 true]⟩)], ([6, 7, 8, 9] ++ seg 28 35), ud8_, []⟩
noncomputable def uqr_ : Env := mkE uhc_ [(0, udx_), (4, udy_), (2, udz_)] [] false
theorem ubx_ : EnvOK Tryz.prog false uqr_ := enk unn_
noncomputable def uu_ : Code := u0_ Tryz.f162
theorem ums_ : CutOK Tryz.prog false Tryz.f162.ntmps udx_ (sub uu_ [1, 1, 0, 0]) :=
 lok (body := sub uu_ [1, 1, 0, 0, 0]) (n := 1) (l := []) ubx_ trivial
theorem umt_ : CutOK Tryz.prog false Tryz.f162.ntmps udy_ (sub uu_ [1, 1, 1, 1, 0, 0, 1, 0, 1, 0, 0]) :=
 lok (body := sub uu_ [1, 1, 1, 1, 0, 0, 1, 0, 1, 0, 0, 0]) (n := 5) (l := []) ubx_ trivial
theorem umu_ : CutOK Tryz.prog false Tryz.f162.ntmps udz_ (sub uu_ [1, 1, 1, 1, 0]) :=
 lok (body := sub uu_ [1, 1, 1, 1, 0, 0]) (n := 3) (l := [(udy_, sub uu_ [1, 1, 1, 1, 0, 0, 1, 0, 1, 0, 0])]) ubx_ ⟨⟨by kernel_rfl, umt_⟩, trivial⟩
theorem ups_ : uo_ Tryz.prog 162 ∧ FunOK Tryz.prog 162 uhb_ :=
 fnk (c := uu_) (l := [(udx_, sub uu_ [1, 1, 0, 0]), (udz_, sub uu_ [1, 1, 1, 1, 0])]) ubx_ Tryz.func162 ⟨⟨by kernel_rfl, ums_⟩, ⟨by kernel_rfl, umu_⟩, trivial⟩
noncomputable def ugr_ : FSpec := ⟨[.io 128 ZZ3, .hof false ZZ22 (.int .i64)], [], uci_, false⟩
noncomputable def ugs_ : List (Nat × FSpec) := [(162, uhb_)]
theorem umv_ : FsOK Tryz.prog ugs_ := ⟨ups_, trivial⟩
noncomputable def upt_ : Env := mkE ugs_ [] [] false
theorem uno_ : EnvOK Tryz.prog false upt_ := enk umv_
noncomputable def upu_ : Code := u0_ Tryz.f101
theorem uo4_ : uo_ Tryz.prog 101 ∧ FunOK Tryz.prog 101 ugr_ :=
 fnk (c := upu_) (l := []) uno_ Tryz.func101 trivial
noncomputable def ubgn_ : FSpec := ⟨[.val (.int .i64)], [.val .bool], u4u_, true⟩
noncomputable def ubgo_ : List (Nat × FSpec) := []
theorem uboj_ : FsOK Tryz.prog ubgo_ := trivial
noncomputable def ubw4_ : Env := mkE ubgo_ [] [] true
theorem ubqt_ : EnvOK Tryz.prog true ubw4_ := enk uboj_
noncomputable def ubw5_ : Code := u0_ Tryz.f130
theorem ubvm_ : uo_ Tryz.prog 130 ∧ FunOK Tryz.prog 130 ubgn_ :=
 fnk (c := ubw5_) (l := []) ubqt_ Tryz.func130 trivial
noncomputable def uw6_ : FSpec := ⟨[.val (.int .i64), .val (.int .i64)], [.val (.int .i64)], um2_, true⟩
noncomputable def u8t_ : List (Nat × FSpec) := [(130, ubgn_)]
theorem ubi0_ : FsOK Tryz.prog u8t_ := ⟨ubvm_, trivial⟩
noncomputable def ubs1_ : Env := mkE u8t_ [] [] true
theorem ubl1_ : EnvOK Tryz.prog true ubs1_ := enk ubi0_
noncomputable def ubs2_ : Code := u0_ Tryz.f78
theorem u8u_ : uo_ Tryz.prog 78 ∧ FunOK Tryz.prog 78 uw6_ :=
 fnk (c := ubs2_) (l := []) ubl1_ Tryz.func78 trivial
noncomputable def ubr4_ : FSpec := ⟨[.val ZZ16], [.val (.int .i64)], ubne_, true⟩
noncomputable def ubr5_ : List (Nat × FSpec) := []
theorem ubvn_ : FsOK Tryz.prog ubr5_ := trivial
noncomputable def uba9_ : CSpec := ⟨⟨[3, 6, 7, 8], [.val (.int .i64), .val ZZ16, .val (.int .i64), .val (.int .i64)]⟩, [((.exit 0), ⟨[], []⟩), (.ret, ⟨[2], [.val (.int .i64)]⟩)], ([2, 5] ++ seg 8 9), ubez_, []⟩
noncomputable def ub2j_ : Env := mkE ubr5_ [(0, uba9_)] [] true
theorem ubko_ : EnvOK Tryz.prog true ub2j_ := enk ubvn_
noncomputable def ubba_ : Code := u0_ Tryz.f77
theorem ubs3_ : CutOK Tryz.prog true Tryz.f77.ntmps uba9_ (sub ubba_ [1, 1, 0, 1, 0]) :=
 lok (body := sub ubba_ [1, 1, 0, 1, 0, 0]) (n := 1) (l := []) ubko_ trivial
theorem ub0x_ : uo_ Tryz.prog 77 ∧ FunOK Tryz.prog 77 ubr4_ :=
 fnk (c := ubba_) (l := [(uba9_, sub ubba_ [1, 1, 0, 1, 0])]) ubko_ Tryz.func77 ⟨⟨by kernel_rfl, ubs3_⟩, trivial⟩
noncomputable def uyp_ : FSpec := ⟨[.val ZZ3, .val ZZ3], [.val (.int .i64)], unv_, true⟩
noncomputable def uyq_ : List (Nat × FSpec) := [(34, ufl_), (77, ubr4_), (78, uw6_)]
theorem u8v_ : FsOK Tryz.prog uyq_ := ⟨uhf_, ub0x_, u8u_, trivial⟩
noncomputable def ubi1_ : Env := mkE uyq_ [] [] true
theorem ubbb_ : EnvOK Tryz.prog true ubi1_ := enk u8v_
noncomputable def ubi2_ : Code := u0_ Tryz.f102
theorem ubgp_ : uo_ Tryz.prog 102 ∧ FunOK Tryz.prog 102 uyp_ :=
 fnk (c := ubi2_) (l := []) ubbb_ Tryz.func102 trivial
noncomputable def u5l_ : FSpec := ⟨[.val (.agg ZZ7)], [.val (.slice ZZ3)], ut4_, false⟩
noncomputable def u5m_ : List (Nat × FSpec) := [(26, uba8_), (52, uoz_), (100, ubcl_), (101, ugr_), (102, uyp_)]
theorem ubgq_ : FsOK Tryz.prog u5m_ := ⟨uboi_, uuu_, ubsx_, uo4_, ubgp_, trivial⟩
noncomputable def usn_ : CSpec := ⟨⟨[1, 3, 8, 9, 10], [.box (.val ZZ7), .own 128 ZZ3 true, .val ZZ19, .val (.int .i64), .val (.int .i64)]⟩, [((.exit 0), ⟨[3], [.own 128 ZZ3 true]⟩)], ([3, 5, 6] ++ seg 10 37), ut3_, []⟩
noncomputable def ubqu_ : Env := mkE u5m_ [(0, usn_)] [] false
theorem u0e_ : EnvOK Tryz.prog false ubqu_ := enk ubgq_
noncomputable def upv_ : Code := u0_ Tryz.f61
theorem ubdz_ : CutOK Tryz.prog false Tryz.f61.ntmps usn_ (sub upv_ [1, 1, 0, 1, 0]) :=
 lok (body := sub upv_ [1, 1, 0, 1, 0, 0]) (n := 1) (l := []) u0e_ trivial
theorem ubok_ : uo_ Tryz.prog 61 ∧ FunOK Tryz.prog 61 u5l_ :=
 fnk (c := upv_) (l := [(usn_, sub upv_ [1, 1, 0, 1, 0])]) u0e_ Tryz.func61 ⟨⟨by kernel_rfl, ubdz_⟩, trivial⟩
noncomputable def ubcn_ : FSpec := ⟨[.val (.agg ZZ7)], [.val (.slice ZZ5)], u0t_, false⟩
noncomputable def ubco_ : List (Nat × FSpec) := [(52, uoz_), (61, u5l_)]
theorem ubl2_ : FsOK Tryz.prog ubco_ := ⟨uuu_, ubok_, trivial⟩
noncomputable def uw7_ : CSpec := ⟨⟨[3, 4, 5, 15, 16, 17], [.own 114 ZZ5 false, .val .bool, .box (.val ZZ17), .val (.slice ZZ3), .val (.int .i64), .val (.int .i64)]⟩, [((.exit 0), ⟨[3, 4, 5], [.own 114 ZZ5 false, .val .bool, .box (.val ZZ17)]⟩)], ([3, 4, 7, 8] ++ seg 17 39), uy0_, []⟩
noncomputable def uw8_ : CSpec := ⟨⟨[3, 5, 56], [.own 114 ZZ5 false, .box (.val ZZ17), .val .bool]⟩, [(.normal, ⟨[3], [.own 114 ZZ5 false]⟩)], [3, 57, 58, 59, 60, 61], urs_, []⟩
noncomputable def uw9_ : CSpec := ⟨⟨[1, 3, 63, 64, 65], [.box (.val ZZ7), .own 114 ZZ5 false, .val (.slice .str), .val (.int .i64), .val (.int .i64)]⟩, [((.exit 3), ⟨[3], [.own 114 ZZ5 false]⟩)], ([3, 10, 11, 12, 13] ++ seg 65 20), uy1_, []⟩
noncomputable def ubvo_ : Env := mkE ubco_ [(0, uw7_), (5, uw8_), (6, uw9_)] [] false
theorem un2_ : EnvOK Tryz.prog false ubvo_ := enk ubl2_
noncomputable def uc0_ : Code := u0_ Tryz.f29
theorem ubi3_ : CutOK Tryz.prog false Tryz.f29.ntmps uw7_ (sub uc0_ [1, 1, 1, 1, 0, 1, 0]) :=
 lok (body := sub uc0_ [1, 1, 1, 1, 0, 1, 0, 0]) (n := 1) (l := []) un2_ trivial
theorem ubi4_ : CutOK Tryz.prog false Tryz.f29.ntmps uw8_ (sub uc0_ [1, 1, 1, 1, 1, 0, 1]) :=
 brk (c := up7_ (sub uc0_ [1, 1, 1, 1, 1, 0, 1])) (x := sub uc0_ [1, 1, 1, 1, 1, 0, 1, 0]) (y := sub uc0_ [1, 1, 1, 1, 1, 0, 1, 1]) (n := 5) (lx := []) (ly := []) un2_ trivial trivial
theorem ubi5_ : CutOK Tryz.prog false Tryz.f29.ntmps uw9_ (sub uc0_ [1, 1, 1, 1, 1, 1, 0, 1, 0]) :=
 lok (body := sub uc0_ [1, 1, 1, 1, 1, 1, 0, 1, 0, 0]) (n := 7) (l := []) un2_ trivial
theorem ubs4_ : uo_ Tryz.prog 29 ∧ FunOK Tryz.prog 29 ubcn_ :=
 fnk (c := uc0_) (l := [(uw7_, sub uc0_ [1, 1, 1, 1, 0, 1, 0]), (uw8_, sub uc0_ [1, 1, 1, 1, 1, 0, 1]), (uw9_, sub uc0_ [1, 1, 1, 1, 1, 1, 0, 1, 0])]) un2_ Tryz.func29 ⟨⟨by kernel_rfl, ubi3_⟩, ⟨by kernel_rfl, ubi4_⟩, ⟨by kernel_rfl, ubi5_⟩, trivial⟩
noncomputable def uqs_ : FSpec := ⟨[.val (.int .i64), .val (.agg ZZ17)], [.val .str, .val (.int .i64)], uf7_, false⟩
noncomputable def u0f_ : List (Nat × FSpec) := [(31, uhp_), (299, une_), (300, ufn_), (306, ul4_), (307, uew_), (314, unh_), (315, ufo_), (323, ujo_), (324, uea_), (329, uoy_), (330, ugc_)]
theorem ubbc_ : FsOK Tryz.prog u0f_ := ⟨ujn_, uv1_, uhg_, uus_, ugq_, uv6_, uhh_, urc_, ufi_, uyj_, uh0_, trivial⟩
noncomputable def ubl3_ : Env := mkE u0f_ [] [] false
theorem ubd0_ : EnvOK Tryz.prog false ubl3_ := enk ubbc_
noncomputable def ubl4_ : Code := u0_ Tryz.f54
theorem u0g_ : uo_ Tryz.prog 54 ∧ FunOK Tryz.prog 54 uqs_ :=
 fnk (c := ubl4_) (l := []) ubd0_ Tryz.func54 trivial
noncomputable def uxa_ : FSpec := ⟨[.val (.agg ZZ17), .val .str], [.val (.agg ZZ13)], uq5_, true⟩
noncomputable def u8w_ : List (Nat × FSpec) := []
theorem ubi6_ : FsOK Tryz.prog u8w_ := trivial
noncomputable def ubs5_ : Env := mkE u8w_ [] [] true
theorem ubl5_ : EnvOK Tryz.prog true ubs5_ := enk ubi6_
noncomputable def ubs6_ : Code := u0_ Tryz.f55
theorem u8x_ : uo_ Tryz.prog 55 ∧ FunOK Tryz.prog 55 uxa_ :=
 fnk (c := ubs6_) (l := []) ubl5_ Tryz.func55 trivial
noncomputable def uu0_ : FSpec := ⟨[.val (.agg ZZ17), .val .str], [.val (.agg ZZ13)], uol_, true⟩
noncomputable def u5n_ : List (Nat × FSpec) := []
theorem ubgr_ : FsOK Tryz.prog u5n_ := trivial
noncomputable def ubqv_ : Env := mkE u5n_ [] [] true
theorem ubi7_ : EnvOK Tryz.prog true ubqv_ := enk ubgr_
noncomputable def ubqw_ : Code := u0_ Tryz.f56
theorem u5o_ : uo_ Tryz.prog 56 ∧ FunOK Tryz.prog 56 uu0_ :=
 fnk (c := ubqw_) (l := []) ubi7_ Tryz.func56 trivial
noncomputable def uhi_ : FSpec := ⟨[.val (.agg ZZ13), .val (.agg ZZ13)], [.val (.int .i64)], uby_, true⟩
noncomputable def u0h_ : List (Nat × FSpec) := [(34, ufl_), (78, uw6_)]
theorem ubbd_ : FsOK Tryz.prog u0h_ := ⟨uhf_, u8u_, trivial⟩
noncomputable def ubl6_ : Env := mkE u0h_ [] [] true
theorem ubd1_ : EnvOK Tryz.prog true ubl6_ := enk ubbd_
noncomputable def ubl7_ : Code := u0_ Tryz.f57
theorem uj9_ : uo_ Tryz.prog 57 ∧ FunOK Tryz.prog 57 uhi_ :=
 fnk (c := ubl7_) (l := []) ubd1_ Tryz.func57 trivial
noncomputable def u5p_ : FSpec := ⟨[.val (.agg ZZ4), .val (.agg ZZ4)], [.val (.int .i64)], uff_, true⟩
noncomputable def u5q_ : List (Nat × FSpec) := [(57, uhi_)]
theorem ubgs_ : FsOK Tryz.prog u5q_ := ⟨uj9_, trivial⟩
noncomputable def ubqx_ : Env := mkE u5q_ [] [] true
theorem ubi8_ : EnvOK Tryz.prog true ubqx_ := enk ubgs_
noncomputable def ubqy_ : Code := u0_ Tryz.f59
theorem ubol_ : uo_ Tryz.prog 59 ∧ FunOK Tryz.prog 59 u5p_ :=
 fnk (c := ubqy_) (l := []) ubi8_ Tryz.func59 trivial
noncomputable def uwe_ : FSpec := ⟨[.val (.agg ZZ4)], [.val (.int .i64), .val (.int .i64), .val .bool], ulx_, false⟩
noncomputable def uwf_ : List (Nat × FSpec) := [(103, ub1_)]
theorem u6x_ : FsOK Tryz.prog uwf_ := ⟨ucb_, trivial⟩
noncomputable def ume_ : CSpec := ⟨⟨[1, 5, 10], [.box (.val ZZ4), .val (.int .i64), .val .bool]⟩, [(.normal, ⟨[1, 5], [.box (.val ZZ4), .val (.int .i64)]⟩)], ([5] ++ seg 11 12), uh9_, []⟩
noncomputable def ubgt_ : Env := mkE uwf_ [(0, ume_)] [] false
theorem utc_ : EnvOK Tryz.prog false ubgt_ := enk u6x_
noncomputable def uez_ : Code := u0_ Tryz.f159
theorem u30_ : CutOK Tryz.prog false Tryz.f159.ntmps ume_ (sub uez_ [1, 1, 0, 1]) :=
 brk (c := up7_ (sub uez_ [1, 1, 0, 1])) (x := sub uez_ [1, 1, 0, 1, 0]) (y := sub uez_ [1, 1, 0, 1, 1]) (n := 0) (lx := []) (ly := []) utc_ trivial trivial
theorem ubd2_ : uo_ Tryz.prog 159 ∧ FunOK Tryz.prog 159 uwe_ :=
 fnk (c := uez_) (l := [(ume_, sub uez_ [1, 1, 0, 1])]) utc_ Tryz.func159 ⟨⟨by kernel_rfl, u30_⟩, trivial⟩
noncomputable def ubcp_ : FSpec := ⟨[.val ZZ18], [.val ZZ18], u0u_, false⟩
noncomputable def ubcq_ : List (Nat × FSpec) := [(159, uwe_), (160, ud2_), (161, ud1_)]
theorem ubl8_ : FsOK Tryz.prog ubcq_ := ⟨ubd2_, ueg_, uef_, trivial⟩
noncomputable def uxb_ : CSpec := ⟨⟨[8, 10, 27], [.val (.int .i64), .box (.val ZZ13), .val .bool]⟩, [(.normal, ⟨[10], [.box (.val ZZ13)]⟩)], [28, 29, 30, 31, 32], urt_, []⟩
noncomputable def uxc_ : CSpec := ⟨⟨[3, 4, 11, 12, 13], [.own 120 (.agg ZZ4) true, .val (.int .i64), .val ZZ18, .val (.int .i64), .val (.int .i64)]⟩, [((.exit 0), ⟨[3], [.own 120 (.agg ZZ4) true]⟩)], ([3, 4, 6, 7, 8, 9, 10] ++ seg 13 48), uy2_, []⟩
noncomputable def ubvp_ : Env := mkE ubcq_ [(3, uxb_), (0, uxc_)] [] false
theorem uu1_ : EnvOK Tryz.prog false ubvp_ := enk ubl8_
noncomputable def ufk_ : Code := u0_ Tryz.f99
theorem ubi9_ : CutOK Tryz.prog false Tryz.f99.ntmps uxb_ (sub ufk_ [1, 1, 1, 0, 1, 0, 0, 1, 1, 0, 0, 1, 1, 1, 1, 0, 1]) :=
 brk (c := up7_ (sub ufk_ [1, 1, 1, 0, 1, 0, 0, 1, 1, 0, 0, 1, 1, 1, 1, 0, 1])) (x := sub ufk_ [1, 1, 1, 0, 1, 0, 0, 1, 1, 0, 0, 1, 1, 1, 1, 0, 1, 0]) (y := sub ufk_ [1, 1, 1, 0, 1, 0, 0, 1, 1, 0, 0, 1, 1, 1, 1, 0, 1, 1]) (n := 3) (lx := []) (ly := []) uu1_ trivial trivial
theorem ubja_ : CutOK Tryz.prog false Tryz.f99.ntmps uxc_ (sub ufk_ [1, 1, 1, 0, 1, 0]) :=
 lok (body := sub ufk_ [1, 1, 1, 0, 1, 0, 0]) (n := 1) (l := [(uxb_, sub ufk_ [1, 1, 1, 0, 1, 0, 0, 1, 1, 0, 0, 1, 1, 1, 1, 0, 1])]) uu1_ ⟨⟨by kernel_rfl, ubi9_⟩, trivial⟩
theorem ubs7_ : uo_ Tryz.prog 99 ∧ FunOK Tryz.prog 99 ubcp_ :=
 fnk (c := ufk_) (l := [(uxc_, sub ufk_ [1, 1, 1, 0, 1, 0])]) uu1_ Tryz.func99 ⟨⟨by kernel_rfl, ubja_⟩, trivial⟩
noncomputable def ubkp_ : FSpec := ⟨[.val (.int .i64), .val ZZ18], [.val (.agg ZZ11), .val (.int .i64)], uwv_, false⟩
noncomputable def ubkq_ : List (Nat × FSpec) := [(99, ubcp_)]
theorem ubqz_ : FsOK Tryz.prog ubkq_ := ⟨ubs7_, trivial⟩
noncomputable def u2r_ : CSpec := ⟨⟨[1, 11], [.val ZZ18, .val .bool]⟩, [(.normal, ⟨[1], [.val ZZ18]⟩)], [1, 12, 13], uxl_, []⟩
noncomputable def u2s_ : CSpec := ⟨⟨[8, 9, 29], [.box (.val ZZ4), .box (.val (.prod (.agg ZZ17) (.agg ZZ17))), .val .bool]⟩, [(.normal, ⟨[8, 9], [.box (.val ZZ4), .box (.val (.prod (.agg ZZ17) (.agg ZZ17)))]⟩)], (seg 30 9), uxm_, []⟩
noncomputable def u2t_ : CSpec := ⟨⟨[6, 20, 21, 22], [.box (.pr (.val (.int .i64)) (.own 114 ZZ5 false)), .val ZZ18, .val (.int .i64), .val (.int .i64)]⟩, [((.exit 0), ⟨[6], [.box (.pr (.val (.int .i64)) (.own 114 ZZ5 false))]⟩)], ([8, 9] ++ seg 22 36), u59_, []⟩
noncomputable def ubze_ : Env := mkE ubkq_ [(0, u2r_), (4, u2s_), (2, u2t_)] [19] false
theorem ury_ : EnvOK Tryz.prog false ubze_ := enk ubqz_
noncomputable def udj_ : Code := u0_ Tryz.f60
theorem ubom_ : CutOK Tryz.prog false Tryz.f60.ntmps u2r_ (sub udj_ [1, 0, 1]) :=
 brk (c := up7_ (sub udj_ [1, 0, 1])) (x := sub udj_ [1, 0, 1, 0]) (y := sub udj_ [1, 0, 1, 1]) (n := 0) (lx := []) (ly := []) ury_ trivial trivial
theorem ubon_ : CutOK Tryz.prog false Tryz.f60.ntmps u2s_ (sub udj_ [1, 1, 1, 1, 0, 1, 0, 0, 1, 1, 0, 0, 1, 1, 0, 1]) :=
 brk (c := up7_ (sub udj_ [1, 1, 1, 1, 0, 1, 0, 0, 1, 1, 0, 0, 1, 1, 0, 1])) (x := sub udj_ [1, 1, 1, 1, 0, 1, 0, 0, 1, 1, 0, 0, 1, 1, 0, 1, 0]) (y := sub udj_ [1, 1, 1, 1, 0, 1, 0, 0, 1, 1, 0, 0, 1, 1, 0, 1, 1]) (n := 4) (lx := []) (ly := []) ury_ trivial trivial
theorem uboo_ : CutOK Tryz.prog false Tryz.f60.ntmps u2t_ (sub udj_ [1, 1, 1, 1, 0, 1, 0]) :=
 lok (body := sub udj_ [1, 1, 1, 1, 0, 1, 0, 0]) (n := 3) (l := [(u2s_, sub udj_ [1, 1, 1, 1, 0, 1, 0, 0, 1, 1, 0, 0, 1, 1, 0, 1])]) ury_ ⟨⟨by kernel_rfl, ubon_⟩, trivial⟩
theorem ubw6_ : uo_ Tryz.prog 60 ∧ FunOK Tryz.prog 60 ubkp_ :=
 fnk (c := udj_) (l := [(u2r_, sub udj_ [1, 0, 1]), (u2t_, sub udj_ [1, 1, 1, 1, 0, 1, 0])]) ury_ Tryz.func60 ⟨⟨by kernel_rfl, ubom_⟩, ⟨by kernel_rfl, uboo_⟩, trivial⟩
noncomputable def ubgu_ : FSpec := ⟨[.val (.int .i64), .val (.slice ZZ5)], [.val (.agg ZZ11), .val (.int .i64)], usz_, false⟩
noncomputable def ubgv_ : List (Nat × FSpec) := [(54, uqs_), (55, uxa_), (56, uu0_), (57, uhi_), (58, ui8_), (59, u5p_), (60, ubkp_)]
theorem ubop_ : FsOK Tryz.prog ubgv_ := ⟨u0g_, u8x_, u5o_, uj9_, uua_, ubol_, ubw6_, trivial⟩
noncomputable def uy9_ : CSpec := ⟨⟨[0, 4, 6, 17, 18, 19], [.val (.int .i64), .box (.val ZZ11), .own 120 (.agg ZZ4) true, .val (.slice ZZ5), .val (.int .i64), .val (.int .i64)]⟩, [((.exit 0), ⟨[4, 6], [.box (.val ZZ11), .own 120 (.agg ZZ4) true]⟩), (.ret, ⟨[4, 5], [.box (.val ZZ11), .val (.int .i64)]⟩)], ([5, 6, 8, 9, 10, 11, 12] ++ seg 19 46), ut5_, []⟩
noncomputable def uza_ : CSpec := ⟨⟨[13, 67, 68, 69], [.own 120 (.agg ZZ4) true, .own 120 (.agg ZZ4) true, .val (.int .i64), .val (.int .i64)]⟩, [((.exit 2), ⟨[13], [.own 120 (.agg ZZ4) true]⟩)], ([13, 15, 16] ++ seg 69 42), u1l_, []⟩
noncomputable def ubw7_ : Env := mkE ubgv_ [(0, uy9_), (5, uza_)] [] false
theorem uxd_ : EnvOK Tryz.prog false ubw7_ := enk ubop_
noncomputable def ujr_ : Code := u0_ Tryz.f28
theorem ubl9_ : CutOK Tryz.prog false Tryz.f28.ntmps uy9_ (sub ujr_ [1, 1, 0, 1, 0]) :=
 lok (body := sub ujr_ [1, 1, 0, 1, 0, 0]) (n := 1) (l := []) uxd_ trivial
theorem ubma_ : CutOK Tryz.prog false Tryz.f28.ntmps uza_ (sub ujr_ [1, 1, 1, 1, 1, 0, 1, 0]) :=
 lok (body := sub ujr_ [1, 1, 1, 1, 1, 0, 1, 0, 0]) (n := 6) (l := []) uxd_ trivial
theorem ubvq_ : uo_ Tryz.prog 28 ∧ FunOK Tryz.prog 28 ubgu_ :=
 fnk (c := ujr_) (l := [(uy9_, sub ujr_ [1, 1, 0, 1, 0]), (uza_, sub ujr_ [1, 1, 1, 1, 1, 0, 1, 0])]) uxd_ Tryz.func28 ⟨⟨by kernel_rfl, ubl9_⟩, ⟨by kernel_rfl, ubma_⟩, trivial⟩
noncomputable def un3_ : FSpec := ⟨[.val (.agg ZZ7)], [.val (.agg ZZ11), .val (.int .i64)], ucr_, false⟩
noncomputable def u5r_ : List (Nat × FSpec) := [(27, us6_), (28, ubgu_), (29, ubcn_)]
theorem ubgw_ : FsOK Tryz.prog u5r_ := ⟨u8k_, ubvq_, ubs4_, trivial⟩
noncomputable def ubq0_ : Env := mkE u5r_ [] [] false
theorem ubjb_ : EnvOK Tryz.prog false ubq0_ := enk ubgw_
noncomputable def ubq1_ : Code := u0_ Tryz.f11
theorem uu2_ : uo_ Tryz.prog 11 ∧ FunOK Tryz.prog 11 un3_ :=
 fnk (c := ubq1_) (l := []) ubjb_ Tryz.func11 trivial
noncomputable def ubgx_ : FSpec := ⟨[.val (.int .i64), .val .str], [.val (.int .i64)], u4w_, false⟩
noncomputable def ubgy_ : List (Nat × FSpec) := [(31, uhp_)]
theorem uboq_ : FsOK Tryz.prog ubgy_ := ⟨ujn_, trivial⟩
noncomputable def ubw8_ : Env := mkE ubgy_ [] [] false
theorem ubq2_ : EnvOK Tryz.prog false ubw8_ := enk uboq_
noncomputable def ubw9_ : Code := u0_ Tryz.f93
theorem ubvr_ : uo_ Tryz.prog 93 ∧ FunOK Tryz.prog 93 ubgx_ :=
 fnk (c := ubw9_) (l := []) ubq2_ Tryz.func93 trivial
noncomputable def ubgz_ : FSpec := ⟨[.val (.agg ZZ7), .val (.slice .str)], [.val (.agg ZZ11), .val (.int .i64)], u4x_, false⟩
noncomputable def ubg0_ : List (Nat × FSpec) := [(11, un3_), (93, ubgx_)]
theorem ubor_ : FsOK Tryz.prog ubg0_ := ⟨uu2_, ubvr_, trivial⟩
noncomputable def uzb_ : CSpec := ⟨⟨[2, 4, 24, 25, 26], [.box (.val ZZ7), .box (.val ZZ11), .val (.slice .str), .val (.int .i64), .val (.int .i64)]⟩, [((.exit 0), ⟨[4], [.box (.val ZZ11)]⟩), (.ret, ⟨[4, 5], [.box (.val ZZ11), .val (.int .i64)]⟩)], ([5, 9, 10] ++ seg 26 13), u1m_, []⟩
noncomputable def ubxa_ : Env := mkE ubg0_ [(2, uzb_)] [] false
theorem u8y_ : EnvOK Tryz.prog false ubxa_ := enk ubor_
noncomputable def uxn_ : Code := u0_ Tryz.f48
theorem ubmb_ : CutOK Tryz.prog false Tryz.f48.ntmps uzb_ (sub uxn_ [1, 1, 1, 1, 0, 1, 0]) :=
 lok (body := sub uxn_ [1, 1, 1, 1, 0, 1, 0, 0]) (n := 3) (l := []) u8y_ trivial
theorem ubvs_ : uo_ Tryz.prog 48 ∧ FunOK Tryz.prog 48 ubgz_ :=
 fnk (c := uxn_) (l := [(uzb_, sub uxn_ [1, 1, 1, 1, 0, 1, 0])]) u8y_ Tryz.func48 ⟨⟨by kernel_rfl, ubmb_⟩, trivial⟩
noncomputable def u0i_ : FSpec := ⟨[.val ZZ5, .val ZZ18], [.val (.int .i64)], uph_, false⟩
noncomputable def u0j_ : List (Nat × FSpec) := [(103, ub1_)]
theorem ubbe_ : FsOK Tryz.prog u0j_ := ⟨ucb_, trivial⟩
noncomputable def ubmc_ : Env := mkE u0j_ [] [] false
theorem ubd3_ : EnvOK Tryz.prog false ubmc_ := enk ubbe_
noncomputable def ubmd_ : Code := u0_ Tryz.f62
theorem ubjc_ : uo_ Tryz.prog 62 ∧ FunOK Tryz.prog 62 u0i_ :=
 fnk (c := ubmd_) (l := []) ubd3_ Tryz.func62 trivial
noncomputable def uso_ : FSpec := ⟨[.val (.agg ZZ11)], [.val ZZ18, .val (.int .i64)], ucs_, false⟩
noncomputable def u2u_ : List (Nat × FSpec) := [(54, uqs_), (55, uxa_), (56, uu0_), (57, uhi_), (62, u0i_)]
theorem ubd4_ : FsOK Tryz.prog u2u_ := ⟨u0g_, u8x_, u5o_, uj9_, ubjc_, trivial⟩
noncomputable def uqt_ : CSpec := ⟨⟨[1, 4, 25, 26, 27], [.box (.val ZZ11), .own 120 (.agg ZZ4) false, .val (.slice ZZ5), .val (.int .i64), .val (.int .i64)]⟩, [((.exit 0), ⟨[4], [.own 120 (.agg ZZ4) false]⟩), (.ret, ⟨[2, 3], [.val ZZ18, .val (.int .i64)]⟩)], ([2, 3, 4, 6, 7, 8, 9, 10, 11] ++ seg 27 73), ur6_, []⟩
noncomputable def ubos_ : Env := mkE u2u_ [(2, uqt_)] [] false
theorem uyr_ : EnvOK Tryz.prog false ubos_ := enk ubd4_
noncomputable def un4_ : Code := u0_ Tryz.f30
theorem ubbf_ : CutOK Tryz.prog false Tryz.f30.ntmps uqt_ (sub un4_ [1, 1, 1, 1, 0, 1, 0]) :=
 lok (body := sub un4_ [1, 1, 1, 1, 0, 1, 0, 0]) (n := 3) (l := []) uyr_ trivial
theorem u2v_ : uo_ Tryz.prog 30 ∧ FunOK Tryz.prog 30 uso_ :=
 fnk (c := un4_) (l := [(uqt_, sub un4_ [1, 1, 1, 1, 0, 1, 0])]) uyr_ Tryz.func30 ⟨⟨by kernel_rfl, ubbf_⟩, trivial⟩
noncomputable def u5s_ : FSpec := ⟨[.val (.agg ZZ11), .val (.slice .str)], [.val ZZ18, .val (.slice ZZ1), .val (.int .i64)], u1o_, false⟩
noncomputable def u5t_ : List (Nat × FSpec) := [(30, uso_), (31, uhp_)]
theorem ubg1_ : FsOK Tryz.prog u5t_ := ⟨u2v_, ujn_, trivial⟩
noncomputable def usp_ : CSpec := ⟨⟨[2, 9, 25, 26, 27], [.box (.val ZZ11), .own 78 ZZ1 false, .val (.slice .str), .val (.int .i64), .val (.int .i64)]⟩, [((.exit 0), ⟨[9], [.own 78 ZZ1 false]⟩), (.ret, ⟨[4, 5, 6], [.val ZZ18, .val (.slice ZZ1), .val (.int .i64)]⟩)], ([4, 5, 6, 9, 11, 12, 13] ++ seg 27 19), ut6_, []⟩
noncomputable def ubq3_ : Env := mkE u5t_ [(2, usp_)] [] false
theorem u0k_ : EnvOK Tryz.prog false ubq3_ := enk ubg1_
noncomputable def upw_ : Code := u0_ Tryz.f94
theorem ubd5_ : CutOK Tryz.prog false Tryz.f94.ntmps usp_ (sub upw_ [1, 1, 1, 1, 1, 0, 1, 0]) :=
 lok (body := sub upw_ [1, 1, 1, 1, 1, 0, 1, 0, 0]) (n := 3) (l := []) u0k_ trivial
theorem ubot_ : uo_ Tryz.prog 94 ∧ FunOK Tryz.prog 94 u5s_ :=
 fnk (c := upw_) (l := [(usp_, sub upw_ [1, 1, 1, 1, 1, 0, 1, 0])]) u0k_ Tryz.func94 ⟨⟨by kernel_rfl, ubd5_⟩, trivial⟩
noncomputable def u2w_ : FSpec := ⟨[.val (.agg ZZ4), .val (.ptr (.agg ZZ13))], [.val .bool], uru_, true⟩
noncomputable def u2x_ : List (Nat × FSpec) := [(57, uhi_)]
theorem ubd6_ : FsOK Tryz.prog u2x_ := ⟨uj9_, trivial⟩
noncomputable def ubou_ : Env := mkE u2x_ [] [] true
theorem ubg2_ : EnvOK Tryz.prog true ubou_ := enk ubd6_
noncomputable def ubov_ : Code := u0_ Tryz.f70
theorem ubme_ : uo_ Tryz.prog 70 ∧ FunOK Tryz.prog 70 u2w_ :=
 fnk (c := ubov_) (l := []) ubg2_ Tryz.func70 trivial
noncomputable def uil_ : FSpec := ⟨[.val ZZ18, .hof false (.agg ZZ4) .bool], [.val (.int .i64)], uf8_, false⟩
noncomputable def uim_ : List (Nat × FSpec) := []
theorem uqu_ : FsOK Tryz.prog uim_ := trivial
noncomputable def uer_ : CSpec := ⟨⟨[0, 1, 7, 8], [.val ZZ18, .hof false (.agg ZZ4) .bool, .val (.int .i64), .val (.int .i64)]⟩, [((.exit 0), ⟨[], []⟩), (.ret, ⟨[4], [.val (.int .i64)]⟩)], ([4, 5] ++ seg 8 11), uii_, []⟩
noncomputable def uu3_ : Env := mkE uim_ [(0, uer_)] [] false
theorem uhq_ : EnvOK Tryz.prog false uu3_ := enk uqu_
noncomputable def udk_ : Code := u0_ Tryz.f69
theorem upx_ : CutOK Tryz.prog false Tryz.f69.ntmps uer_ (sub udk_ [1, 0, 1, 0]) :=
 lok (body := sub udk_ [1, 0, 1, 0, 0]) (n := 1) (l := []) uhq_ trivial
theorem utk_ : uo_ Tryz.prog 69 ∧ FunOK Tryz.prog 69 uil_ :=
 fnk (c := udk_) (l := [(uer_, sub udk_ [1, 0, 1, 0])]) uhq_ Tryz.func69 ⟨⟨by kernel_rfl, upx_⟩, trivial⟩
noncomputable def uzc_ : FSpec := ⟨[.val ZZ18, .val .str], [.val (.int .i64)], ui7_, false⟩
noncomputable def ubcr_ : List (Nat × FSpec) := [(69, uil_), (70, u2w_)]
theorem ubmf_ : FsOK Tryz.prog ubcr_ := ⟨utk_, ubme_, trivial⟩
noncomputable def ubvt_ : Env := mkE ubcr_ [] [] false
theorem ubow_ : EnvOK Tryz.prog false ubvt_ := enk ubmf_
noncomputable def ubvu_ : Code := u0_ Tryz.f32
theorem ubcs_ : uo_ Tryz.prog 32 ∧ FunOK Tryz.prog 32 uzc_ :=
 fnk (c := ubvu_) (l := []) ubow_ Tryz.func32 trivial
noncomputable def ubct_ : FSpec := ⟨[.val (.agg ZZ11), .val (.slice .str)], [.val (.slice .str), .val (.int .i64)], u0v_, false⟩
noncomputable def ubcu_ : List (Nat × FSpec) := [(32, uzc_), (94, u5s_), (300, ufn_), (307, uew_), (315, ufo_), (324, uea_), (330, ugc_)]
theorem ubmg_ : FsOK Tryz.prog ubcu_ := ⟨ubcs_, ubot_, uhg_, ugq_, uhh_, ufi_, uh0_, trivial⟩
noncomputable def uxe_ : CSpec := ⟨⟨[1, 6, 9, 22, 23, 24], [.val (.slice .str), .val ZZ18, .own 9 .str false, .val (.slice ZZ1), .val (.int .i64), .val (.int .i64)]⟩, [((.exit 0), ⟨[9], [.own 9 .str false]⟩)], ([9, 10, 11] ++ seg 24 18), uy3_, []⟩
noncomputable def ubvv_ : Env := mkE ubcu_ [(1, uxe_)] [] false
theorem u5u_ : EnvOK Tryz.prog false ubvv_ := enk ubmg_
noncomputable def uu4_ : Code := u0_ Tryz.f49
theorem ubjd_ : CutOK Tryz.prog false Tryz.f49.ntmps uxe_ (sub uu4_ [1, 1, 1, 1, 0, 1, 0]) :=
 lok (body := sub uu4_ [1, 1, 1, 1, 0, 1, 0, 0]) (n := 2) (l := []) u5u_ trivial
theorem ubs8_ : uo_ Tryz.prog 49 ∧ FunOK Tryz.prog 49 ubct_ :=
 fnk (c := uu4_) (l := [(uxe_, sub uu4_ [1, 1, 1, 1, 0, 1, 0])]) u5u_ Tryz.func49 ⟨⟨by kernel_rfl, ubjd_⟩, trivial⟩
noncomputable def ubg3_ : FSpec := ⟨[.val (.agg ZZ7), .val (.slice .str)], [.val (.slice .str), .val (.int .i64)], u4z_, false⟩
noncomputable def ubg4_ : List (Nat × FSpec) := [(48, ubgz_), (49, ubct_)]
theorem ubox_ : FsOK Tryz.prog ubg4_ := ⟨ubvs_, ubs8_, trivial⟩
noncomputable def uzd_ : CSpec := ⟨⟨[8, 9, 30, 31, 32], [.val (.slice .str), .own 9 .str false, .val (.slice .str), .val (.int .i64), .val (.int .i64)]⟩, [((.exit 0), ⟨[9], [.own 9 .str false]⟩)], ([8, 9, 11] ++ seg 32 21), u1p_, []⟩
noncomputable def ubxb_ : Env := mkE ubg4_ [(2, uzd_)] [] false
theorem u8z_ : EnvOK Tryz.prog false ubxb_ := enk ubox_
noncomputable def uxo_ : Code := u0_ Tryz.f25
theorem ubmh_ : CutOK Tryz.prog false Tryz.f25.ntmps uzd_ (sub uxo_ [1, 1, 1, 1, 1, 1, 0, 1, 0]) :=
 lok (body := sub uxo_ [1, 1, 1, 1, 1, 1, 0, 1, 0, 0]) (n := 3) (l := []) u8z_ trivial
theorem ubvw_ : uo_ Tryz.prog 25 ∧ FunOK Tryz.prog 25 ubg3_ :=
 fnk (c := uxo_) (l := [(uzd_, sub uxo_ [1, 1, 1, 1, 1, 1, 0, 1, 0])]) u8z_ Tryz.func25 ⟨⟨by kernel_rfl, ubmh_⟩, trivial⟩
noncomputable def ubkr_ : FSpec := ⟨[.val (.agg ZZ7), .val (.slice .str), .val .str], [.val .str, .val .bool, .val (.int .i64)], u9x_, false⟩
noncomputable def ubks_ : List (Nat × FSpec) := [(25, ubg3_), (26, uba8_)]
theorem ubq4_ : FsOK Tryz.prog ubks_ := ⟨ubvw_, uboi_, trivial⟩
noncomputable def u2y_ : CSpec := ⟨⟨[3, 11, 12, 13, 37, 38, 39], [.box (.val ZZ7), .val .str, .val .str, .val .str, .val (.slice .str), .val (.int .i64), .val (.int .i64)]⟩, [((.exit 0), ⟨[12], [.val .str]⟩)], ([12, 13, 15, 16, 17] ++ seg 39 26), u6a_, []⟩
noncomputable def ubzf_ : Env := mkE ubks_ [(2, u2y_)] [] false
theorem ubcv_ : EnvOK Tryz.prog false ubzf_ := enk ubq4_
noncomputable def u04_ : Code := u0_ Tryz.f10
theorem uboy_ : CutOK Tryz.prog false Tryz.f10.ntmps u2y_ (sub u04_ [1, 1, 1, 1, 1, 1, 0, 1, 0]) :=
 lok (body := sub u04_ [1, 1, 1, 1, 1, 1, 0, 1, 0, 0]) (n := 3) (l := []) ubcv_ trivial
theorem ubxc_ : uo_ Tryz.prog 10 ∧ FunOK Tryz.prog 10 ubkr_ :=
 fnk (c := u04_) (l := [(u2y_, sub u04_ [1, 1, 1, 1, 1, 1, 0, 1, 0])]) ubcv_ Tryz.func10 ⟨⟨by kernel_rfl, uboy_⟩, trivial⟩
noncomputable def u5v_ : FSpec := ⟨[], [.val (.arr 6 (.map (.int .u8) (.int .i64)))], ube3_, true⟩
noncomputable def u5w_ : List (Nat × FSpec) := []
theorem ubg5_ : FsOK Tryz.prog u5w_ := trivial
noncomputable def ubq5_ : Env := mkE u5w_ [] [] true
theorem ubje_ : EnvOK Tryz.prog true ubq5_ := enk ubg5_
noncomputable def ubq6_ : Code := u0_ Tryz.f46
theorem uboz_ : uo_ Tryz.prog 46 ∧ FunOK Tryz.prog 46 u5v_ :=
 fnk (c := ubq6_) (l := []) ubje_ Tryz.func46 trivial
noncomputable def uze_ : FSpec := ⟨[.val .str], [.val (.int .i64), .val (.int .i64)], u9y_, true⟩
noncomputable def ubcw_ : List (Nat × FSpec) := [(46, u5v_)]
theorem ubmi_ : FsOK Tryz.prog ubcw_ := ⟨uboz_, trivial⟩
noncomputable def uxf_ : CSpec := ⟨⟨[0, 5, 16, 17], [.val .str, .box (.val (.arr 6 (.int .i64))), .val (.arr 6 (.map (.int .u8) (.int .i64))), .val (.int .i64)]⟩, [((.exit 0), ⟨[5], [.box (.val (.arr 6 (.int .i64)))]⟩), (.ret, ⟨[2, 3], [.val (.int .i64), .val (.int .i64)]⟩)], ([2, 3, 6, 7, 8, 9] ++ seg 17 18), ubb6_, []⟩
noncomputable def ubvx_ : Env := mkE ubcw_ [(1, uxf_)] [] true
theorem u5x_ : EnvOK Tryz.prog true ubvx_ := enk ubmi_
noncomputable def uu5_ : Code := u0_ Tryz.f19
theorem ubjf_ : CutOK Tryz.prog true Tryz.f19.ntmps uxf_ (sub uu5_ [1, 1, 1, 1, 0, 1, 0]) :=
 lok (body := sub uu5_ [1, 1, 1, 1, 0, 1, 0, 0]) (n := 2) (l := []) u5x_ trivial
theorem ubcx_ : uo_ Tryz.prog 19 ∧ FunOK Tryz.prog 19 uze_ :=
 fnk (c := uu5_) (l := [(uxf_, sub uu5_ [1, 1, 1, 1, 0, 1, 0])]) u5x_ Tryz.func19 ⟨⟨by kernel_rfl, ubjf_⟩, trivial⟩
noncomputable def u2z_ : FSpec := ⟨[.val .str], [.val .bool], u40_, true⟩
noncomputable def ubg6_ : List (Nat × FSpec) := []
theorem ubo0_ : FsOK Tryz.prog ubg6_ := trivial
noncomputable def uzf_ : CSpec := ⟨⟨[0, 6, 7], [.val .str, .val (.int .i64), .val (.int .i64)]⟩, [((.exit 0), ⟨[], []⟩), (.ret, ⟨[2], [.val .bool]⟩)], ([2, 3, 4] ++ seg 7 42), ube4_, []⟩
noncomputable def ubxd_ : Env := mkE ubg6_ [(0, uzf_)] [] true
theorem u80_ : EnvOK Tryz.prog true ubxd_ := enk ubo0_
noncomputable def uxp_ : Code := u0_ Tryz.f127
theorem ubmj_ : CutOK Tryz.prog true Tryz.f127.ntmps uzf_ (sub uxp_ [1, 0, 1, 0]) :=
 lok (body := sub uxp_ [1, 0, 1, 0, 0]) (n := 1) (l := []) u80_ trivial
theorem ubg7_ : uo_ Tryz.prog 127 ∧ FunOK Tryz.prog 127 u2z_ :=
 fnk (c := uxp_) (l := [(uzf_, sub uxp_ [1, 0, 1, 0])]) u80_ Tryz.func127 ⟨⟨by kernel_rfl, ubmj_⟩, trivial⟩
noncomputable def uu6_ : FSpec := ⟨[.val (.agg ZZ2)], [.val (.int .i64)], uzs_, true⟩
noncomputable def uu7_ : List (Nat × FSpec) := [(127, u2z_)]
theorem u31_ : FsOK Tryz.prog uu7_ := ⟨ubg7_, trivial⟩
noncomputable def uk2_ : CSpec := ⟨⟨[1, 10, 11, 12], [.box (.val ZZ2), .val (.slice .str), .val (.int .i64), .val (.int .i64)]⟩, [((.exit 0), ⟨[], []⟩), (.ret, ⟨[2], [.val (.int .i64)]⟩)], ([2, 3, 4] ++ seg 12 28), ut7_, []⟩
noncomputable def ubd7_ : Env := mkE uu7_ [(1, uk2_)] [] true
theorem urg_ : EnvOK Tryz.prog true ubd7_ := enk u31_
noncomputable def uic_ : Code := u0_ Tryz.f128
theorem u20_ : CutOK Tryz.prog true Tryz.f128.ntmps uk2_ (sub uic_ [1, 1, 0, 1, 0]) :=
 lok (body := sub uic_ [1, 1, 0, 1, 0, 0]) (n := 2) (l := []) urg_ trivial
theorem ubbg_ : uo_ Tryz.prog 128 ∧ FunOK Tryz.prog 128 uu6_ :=
 fnk (c := uic_) (l := [(uk2_, sub uic_ [1, 1, 0, 1, 0])]) urg_ Tryz.func128 ⟨⟨by kernel_rfl, u20_⟩, trivial⟩
noncomputable def u81_ : FSpec := ⟨[.val (.agg ZZ2)], [.val (.slice (.agg ZZ11)), .val (.int .i64)], ubj5_, false⟩
noncomputable def u82_ : List (Nat × FSpec) := [(11, un3_), (19, uze_), (127, u2z_), (128, uu6_)]
theorem ubjg_ : FsOK Tryz.prog u82_ := ⟨uu2_, ubcx_, ubg7_, ubbg_, trivial⟩
noncomputable def uu8_ : CSpec := ⟨⟨[1, 37], [.box (.val ZZ2), .val .bool]⟩, [(.normal, ⟨[1], [.box (.val ZZ2)]⟩), (.ret, ⟨[2, 3], [.val (.slice (.agg ZZ11)), .val (.int .i64)]⟩)], ([2, 3, 5, 6] ++ seg 38 9), u7o_, []⟩
noncomputable def uu9_ : CSpec := ⟨⟨[7, 52, 53, 54], [.own 42 (.agg ZZ11) false, .val (.slice (.agg ZZ7)), .val (.int .i64), .val (.int .i64)]⟩, [((.exit 1), ⟨[7], [.own 42 (.agg ZZ11) false]⟩), (.ret, ⟨[2, 3], [.val (.slice (.agg ZZ11)), .val (.int .i64)]⟩)], ([2, 3, 7, 9, 10, 11] ++ seg 54 17), u7p_, []⟩
noncomputable def ubs9_ : Env := mkE u82_ [(4, uu8_), (7, uu9_)] [] false
theorem usq_ : EnvOK Tryz.prog false ubs9_ := enk ubjg_
noncomputable def uei_ : Code := u0_ Tryz.f72
theorem ubg8_ : CutOK Tryz.prog false Tryz.f72.ntmps uu8_ (sub uei_ [1, 1, 1, 1, 0, 1]) :=
 brk (c := up7_ (sub uei_ [1, 1, 1, 1, 0, 1])) (x := sub uei_ [1, 1, 1, 1, 0, 1, 0]) (y := sub uei_ [1, 1, 1, 1, 0, 1, 1]) (n := 4) (lx := []) (ly := []) usq_ trivial trivial
theorem ubg9_ : CutOK Tryz.prog false Tryz.f72.ntmps uu9_ (sub uei_ [1, 1, 1, 1, 1, 1, 1, 0, 1, 0]) :=
 lok (body := sub uei_ [1, 1, 1, 1, 1, 1, 1, 0, 1, 0, 0]) (n := 8) (l := []) usq_ trivial
theorem ubq7_ : uo_ Tryz.prog 72 ∧ FunOK Tryz.prog 72 u81_ :=
 fnk (c := uei_) (l := [(uu8_, sub uei_ [1, 1, 1, 1, 0, 1]), (uu9_, sub uei_ [1, 1, 1, 1, 1, 1, 1, 0, 1, 0])]) usq_ Tryz.func72 ⟨⟨by kernel_rfl, ubg8_⟩, ⟨by kernel_rfl, ubg9_⟩, trivial⟩
noncomputable def ubcy_ : FSpec := ⟨[.val (.agg ZZ2)], [.val (.int .i64)], ubnf_, false⟩
noncomputable def ubcz_ : List (Nat × FSpec) := [(72, u81_)]
theorem ubmk_ : FsOK Tryz.prog ubcz_ := ⟨ubq7_, trivial⟩
noncomputable def ubvy_ : Env := mkE ubcz_ [] [] false
theorem ubo1_ : EnvOK Tryz.prog false ubvy_ := enk ubmk_
noncomputable def ubvz_ : Code := u0_ Tryz.f35
theorem ubta_ : uo_ Tryz.prog 35 ∧ FunOK Tryz.prog 35 ubcy_ :=
 fnk (c := ubvz_) (l := []) ubo1_ Tryz.func35 trivial
noncomputable def u0l_ : FSpec := ⟨[.val (.slice (.agg ZZ2))], [.val (.int .i64)], u7q_, false⟩
noncomputable def u0m_ : List (Nat × FSpec) := [(35, ubcy_)]
theorem ubbh_ : FsOK Tryz.prog u0m_ := ⟨ubta_, trivial⟩
noncomputable def uo5_ : CSpec := ⟨⟨[9, 10, 11], [.val (.slice (.agg ZZ2)), .val (.int .i64), .val (.int .i64)]⟩, [((.exit 0), ⟨[], []⟩), (.ret, ⟨[2], [.val (.int .i64)]⟩)], ([2, 4, 5] ++ seg 11 10), uzt_, []⟩
noncomputable def ubml_ : Env := mkE u0m_ [(1, uo5_)] [] false
theorem uwg_ : EnvOK Tryz.prog false ubml_ := enk ubbh_
noncomputable def umf_ : Code := u0_ Tryz.f14
theorem u83_ : CutOK Tryz.prog false Tryz.f14.ntmps uo5_ (sub umf_ [1, 1, 0, 1, 0]) :=
 lok (body := sub umf_ [1, 1, 0, 1, 0, 0]) (n := 2) (l := []) uwg_ trivial
theorem ubjh_ : uo_ Tryz.prog 14 ∧ FunOK Tryz.prog 14 u0l_ :=
 fnk (c := umf_) (l := [(uo5_, sub umf_ [1, 1, 0, 1, 0])]) uwg_ Tryz.func14 ⟨⟨by kernel_rfl, u83_⟩, trivial⟩
noncomputable def ubbi_ : FSpec := ⟨[.nilS], [.val (.slice .str)], ubh0_, true⟩
noncomputable def uva_ : List (Nat × FSpec) := []
theorem u32_ : FsOK Tryz.prog uva_ := trivial
noncomputable def ubd8_ : Env := mkE uva_ [] [] true
theorem u6y_ : EnvOK Tryz.prog true ubd8_ := enk u32_
noncomputable def ubd9_ : Code := u0_ Tryz.f79
theorem ubbj_ : uo_ Tryz.prog 79 ∧ FunOK Tryz.prog 79 ubbi_ :=
 fnk (c := ubd9_) (l := []) u6y_ Tryz.func79 trivial
noncomputable def ubbk_ : FSpec := ⟨[.nns .str], [.val (.slice .str)], uzu_, true⟩
noncomputable def uvb_ : List (Nat × FSpec) := []
theorem u33_ : FsOK Tryz.prog uvb_ := trivial
noncomputable def ubea_ : Env := mkE uvb_ [] [] true
theorem u6z_ : EnvOK Tryz.prog true ubea_ := enk u33_
noncomputable def ubeb_ : Code := u0_ Tryz.f79
theorem ubbl_ : uo_ Tryz.prog 79 ∧ FunOK Tryz.prog 79 ubbk_ :=
 fnk (c := ubeb_) (l := []) u6z_ Tryz.func79 trivial
noncomputable def uys_ : FSpec := ⟨[.val (.slice .str)], [.val (.slice .str)], unw_, true⟩
theorem ubha_ : uo_ Tryz.prog 79 ∧ FunOK Tryz.prog 79 uys_ := ub3m_ ubbj_ ubbl_ (by kernel_rfl) (fun _ => rfl)
noncomputable def u34_ : FSpec := ⟨[.nilS], [.val ZZ19], u90_, true⟩
noncomputable def up4_ : List (Nat × FSpec) := []
theorem uzg_ : FsOK Tryz.prog up4_ := trivial
noncomputable def u60_ : Env := mkE up4_ [] [] true
theorem u05_ : EnvOK Tryz.prog true u60_ := enk uzg_
noncomputable def u61_ : Code := u0_ Tryz.f80
theorem u35_ : uo_ Tryz.prog 80 ∧ FunOK Tryz.prog 80 u34_ :=
 fnk (c := u61_) (l := []) u05_ Tryz.func80 trivial
noncomputable def u36_ : FSpec := ⟨[.nns (.agg (.prod (.int .i64) .str))], [.val ZZ19], ut8_, true⟩
noncomputable def up5_ : List (Nat × FSpec) := []
theorem uzh_ : FsOK Tryz.prog up5_ := trivial
noncomputable def u62_ : Env := mkE up5_ [] [] true
theorem u06_ : EnvOK Tryz.prog true u62_ := enk uzh_
noncomputable def u63_ : Code := u0_ Tryz.f80
theorem u37_ : uo_ Tryz.prog 80 ∧ FunOK Tryz.prog 80 u36_ :=
 fnk (c := u63_) (l := []) u06_ Tryz.func80 trivial
noncomputable def utd_ : FSpec := ⟨[.val ZZ19], [.val ZZ19], uxz_, true⟩
theorem u84_ : uo_ Tryz.prog 80 ∧ FunOK Tryz.prog 80 utd_ := ub3m_ u35_ u37_ (by kernel_rfl) (fun _ => rfl)
noncomputable def u85_ : FSpec := ⟨[.val (.agg ZZ2)], [.val (.agg ZZ2)], ubj6_, true⟩
noncomputable def u86_ : List (Nat × FSpec) := [(79, uys_), (80, utd_)]
theorem ubji_ : FsOK Tryz.prog u86_ := ⟨ubha_, u84_, trivial⟩
noncomputable def uvc_ : CSpec := ⟨⟨[3, 11, 12, 13], [.own 37 (.agg ZZ7) false, .val (.slice (.agg ZZ7)), .val (.int .i64), .val (.int .i64)]⟩, [((.exit 0), ⟨[3], [.own 37 (.agg ZZ7) false]⟩)], ([3, 5] ++ seg 13 21), u7r_, []⟩
noncomputable def ubtb_ : Env := mkE u86_ [(0, uvc_)] [] true
theorem u21_ : EnvOK Tryz.prog true ubtb_ := enk ubji_
noncomputable def urz_ : Code := u0_ Tryz.f38
theorem ubhb_ : CutOK Tryz.prog true Tryz.f38.ntmps uvc_ (sub urz_ [1, 1, 1, 0, 1, 0]) :=
 lok (body := sub urz_ [1, 1, 1, 0, 1, 0, 0]) (n := 1) (l := []) u21_ trivial
theorem ubq8_ : uo_ Tryz.prog 38 ∧ FunOK Tryz.prog 38 u85_ :=
 fnk (c := urz_) (l := [(uvc_, sub urz_ [1, 1, 1, 0, 1, 0])]) u21_ Tryz.func38 ⟨⟨by kernel_rfl, ubhb_⟩, trivial⟩
noncomputable def ubhc_ : FSpec := ⟨[.val (.agg ZZ2), .val (.agg ZZ2)], [.val (.int .i64)], ubru_, true⟩
noncomputable def ubhd_ : List (Nat × FSpec) := [(34, ufl_)]
theorem ubo2_ : FsOK Tryz.prog ubhd_ := ⟨uhf_, trivial⟩
noncomputable def ubxe_ : Env := mkE ubhd_ [] [] true
theorem ubq9_ : EnvOK Tryz.prog true ubxe_ := enk ubo2_
noncomputable def ubxf_ : Code := u0_ Tryz.f18
theorem ubv0_ : uo_ Tryz.prog 18 ∧ FunOK Tryz.prog 18 ubhc_ :=
 fnk (c := ubxf_) (l := []) ubq9_ Tryz.func18 trivial
noncomputable def ubkt_ : FSpec := ⟨[.val (.slice (.agg ZZ2))], [.val (.agg ZZ20), .val (.int .i64)], ubum_, false⟩
noncomputable def ubku_ : List (Nat × FSpec) := [(14, u0l_), (17, uli_), (18, ubhc_), (38, u85_)]
theorem ubra_ : FsOK Tryz.prog ubku_ := ⟨ubjh_, ux1_, ubv0_, ubq8_, trivial⟩
noncomputable def u22_ : CSpec := ⟨⟨[5, 15, 16, 17], [.box (.pr (.val (.int .i64)) (.pr (.own 31 (.agg ZZ2) true) (.own 3 (.int .i64) true))), .val (.slice (.agg ZZ2)), .val (.int .i64), .val (.int .i64)]⟩, [((.exit 0), ⟨[5], [.box (.pr (.val (.int .i64)) (.pr (.own 31 (.agg ZZ2) true) (.own 3 (.int .i64) true)))]⟩)], ([7] ++ seg 17 17), ubj7_, []⟩
noncomputable def u23_ : CSpec := ⟨⟨[2, 5, 8], [.box (.val ZZ20), .box (.pr (.val (.int .i64)) (.pr (.own 31 (.agg ZZ2) true) (.own 3 (.int .i64) true))), .val (.int .i64)]⟩, [((.exit 2), ⟨[2, 5], [.box (.val ZZ20), .box (.pr (.val (.int .i64)) (.pr (.own 31 (.agg ZZ2) true) (.own 3 (.int .i64) true)))]⟩), (.ret, ⟨[2, 3], [.box (.val ZZ20), .val (.int .i64)]⟩)], ([3, 8] ++ seg 37 22), ubj8_, []⟩
noncomputable def ubzg_ : Env := mkE ubku_ [(1, u22_), (3, u23_)] [] false
theorem uzi_ : EnvOK Tryz.prog false ubzg_ := enk ubra_
noncomputable def umg_ : Code := u0_ Tryz.f20
theorem ubo3_ : CutOK Tryz.prog false Tryz.f20.ntmps u22_ (sub umg_ [1, 1, 1, 0, 1, 0]) :=
 lok (body := sub umg_ [1, 1, 1, 0, 1, 0, 0]) (n := 2) (l := []) uzi_ trivial
theorem ubo4_ : CutOK Tryz.prog false Tryz.f20.ntmps u23_ (sub umg_ [1, 1, 1, 1, 1, 0, 1, 0]) :=
 lok (body := sub umg_ [1, 1, 1, 1, 1, 0, 1, 0, 0]) (n := 4) (l := []) uzi_ trivial
theorem ubxg_ : uo_ Tryz.prog 20 ∧ FunOK Tryz.prog 20 ubkt_ :=
 fnk (c := umg_) (l := [(u22_, sub umg_ [1, 1, 1, 0, 1, 0]), (u23_, sub umg_ [1, 1, 1, 1, 1, 0, 1, 0])]) uzi_ Tryz.func20 ⟨⟨by kernel_rfl, ubo3_⟩, ⟨by kernel_rfl, ubo4_⟩, trivial⟩
noncomputable def ub0y_ : FSpec := ⟨[], [.val .bool], ub3p_, false⟩
noncomputable def ub0z_ : List (Nat × FSpec) := [(19, uze_), (20, ubkt_)]
theorem ub00_ : FsOK Tryz.prog ub0z_ := ⟨ubcx_, ubxg_, trivial⟩
noncomputable def ub8c_ : Env := mkE ub0z_ [] [] false
theorem ub2k_ : EnvOK Tryz.prog false ub8c_ := enk ub00_
noncomputable def ub8d_ : Code := u0_ Tryz.f6
theorem ub6u_ : uo_ Tryz.prog 6 ∧ FunOK Tryz.prog 6 ub0y_ :=
 fnk (c := ub8d_) (l := []) ub2k_ Tryz.func6 trivial
noncomputable def u5y_ : FSpec := ⟨[.val (.agg ZZ11), .val .str], [.val .bool, .val (.int .i64)], u1q_, false⟩
noncomputable def u5z_ : List (Nat × FSpec) := [(30, uso_), (31, uhp_), (32, uzc_), (300, ufn_), (307, uew_), (315, ufo_), (324, uea_), (330, ugc_)]
theorem ubhe_ : FsOK Tryz.prog u5z_ := ⟨u2v_, ujn_, ubcs_, uhg_, ugq_, uhh_, ufi_, uh0_, trivial⟩
noncomputable def ubrb_ : Env := mkE u5z_ [] [] false
theorem ubjj_ : EnvOK Tryz.prog false ubrb_ := enk ubhe_
noncomputable def ubrc_ : Code := u0_ Tryz.f12
theorem ubo5_ : uo_ Tryz.prog 12 ∧ FunOK Tryz.prog 12 u5y_ :=
 fnk (c := ubrc_) (l := []) ubjj_ Tryz.func12 trivial
noncomputable def ubkv_ : FSpec := ⟨[.val (.int .i64), .val .str, .val .str], [.val ZZ1, .val ZZ1, .val (.int .i64)], u91_, false⟩
noncomputable def ubkw_ : List (Nat × FSpec) := [(31, uhp_)]
theorem ubrd_ : FsOK Tryz.prog ubkw_ := ⟨ujn_, trivial⟩
noncomputable def ubzh_ : Env := mkE ubkw_ [] [] false
theorem ubtc_ : EnvOK Tryz.prog false ubzh_ := enk ubrd_
noncomputable def ubzi_ : Code := u0_ Tryz.f33
theorem ubxh_ : uo_ Tryz.prog 33 ∧ FunOK Tryz.prog 33 ubkv_ :=
 fnk (c := ubzi_) (l := []) ubtc_ Tryz.func33 trivial
noncomputable def u87_ : FSpec := ⟨[.val (.int .i64), .val .str, .val .str], [.val (.int .i64), .val (.int .i64)], uq6_, false⟩
noncomputable def u88_ : List (Nat × FSpec) := [(33, ubkv_), (34, ufl_), (300, ufn_), (307, uew_), (315, ufo_), (324, uea_), (330, ugc_)]
theorem ubjk_ : FsOK Tryz.prog u88_ := ⟨ubxh_, uhf_, uhg_, ugq_, uhh_, ufi_, uh0_, trivial⟩
noncomputable def ubtd_ : Env := mkE u88_ [] [] false
theorem ubmm_ : EnvOK Tryz.prog false ubtd_ := enk ubjk_
noncomputable def ubte_ : Code := u0_ Tryz.f13
theorem ubre_ : uo_ Tryz.prog 13 ∧ FunOK Tryz.prog 13 u87_ :=
 fnk (c := ubte_) (l := []) ubmm_ Tryz.func13 trivial
noncomputable def ubec_ : FSpec := ⟨[.val (.agg ZZ7), .val (.slice .str), .val .str], [.val .bool], uly_, false⟩
noncomputable def uwh_ : List (Nat × FSpec) := [(6, ub0y_), (9, ukt_), (10, ubkr_), (11, un3_), (12, u5y_), (13, u87_)]
theorem u64_ : FsOK Tryz.prog uwh_ := ⟨ub6u_, utb_, ubxc_, uu2_, ubo5_, ubre_, trivial⟩
noncomputable def umh_ : CSpec := ⟨⟨[2, 3, 7, 8, 10, 40, 41, 42], [.val .str, .box (.val ZZ7), .val .str, .val .bool, .box (.val ZZ11), .val (.slice .str), .val (.int .i64), .val (.int .i64)]⟩, [((.exit 0), ⟨[], []⟩), (.ret, ⟨[6], [.val .bool]⟩)], ([6, 13, 14, 15, 16, 17, 18, 19] ++ seg 42 44), um8_, []⟩
noncomputable def ubhf_ : Env := mkE uwh_ [(1, umh_)] [] false
theorem ute_ : EnvOK Tryz.prog false ubhf_ := enk u64_
noncomputable def ujj_ : Code := u0_ Tryz.f4
theorem u38_ : CutOK Tryz.prog false Tryz.f4.ntmps umh_ (sub ujj_ [1, 1, 1, 1, 0, 1, 0]) :=
 lok (body := sub ujj_ [1, 1, 1, 1, 0, 1, 0, 0]) (n := 2) (l := []) ute_ trivial
theorem L5_AdvisoryFixIsSafe_ok : uo_ Tryz.prog 4 ∧ FunOK Tryz.prog 4 ubec_ :=
 fnk (c := ujj_) (l := [(umh_, sub ujj_ [1, 1, 1, 1, 0, 1, 0])]) ute_ Tryz.func4 ⟨⟨by kernel_rfl, u38_⟩, trivial⟩
end Go.Ev.Pv
