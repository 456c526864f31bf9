/-
  Each of the program's functions keeps what its plain function says.
-/
import Derived.Test.YthmppjbjlbaahaaGreatDoorD
import Derived.Test.YthmppjbjlbaahaaGreatDoorG
import Derived.Test.YthmppjbjlbaahaaGreatDoorProg
set_option linter.unusedVariables false
set_option linter.unusedSimpArgs false
set_option linter.unusedSectionVars false
set_option maxRecDepth 100000
namespace Go.Ev.Pv
def seg : Nat → Nat → List Nat
 | _, 0 => []
 | a, n + 1 => a :: seg (a + 1) n
abbrev ZZ14 : Ty := (.slice (.agg (.prod (.int .i64) .str)))
abbrev ZZ4 : Ty := (.prod .str (.prod (.int .i64) (.prod ZZ14 (.prod (.slice .str) (.slice .str)))))
abbrev ZZ1 : Ty := (.prod .str (.prod (.slice .str) (.prod .str (.prod (.int .i64) (.prod .bool (.prod .str (.slice (.agg ZZ4))))))))
abbrev ZZ16 : Ty := (.prod (.int .i64) (.prod .str (.prod .str .bool)))
abbrev ZZ21 : Ty := (.slice (.int .i64))
abbrev ZZ6 : Ty := (.prod (.int .i64) (.prod ZZ21 (.prod (.int .i64) (.prod (.int .i64) (.prod (.int .i64) (.prod (.int .i64) (.slice .str)))))))
abbrev ZZ13 : Ty := (.agg (.prod .bool (.prod .str (.int .i64))))
abbrev ZZ2 : Ty := (.ialt 227 (.agg (.prod (.arr 3 (.int .i64)) (.slice .str))) (.ialt 233 (.agg ZZ16) (.ialt 237 (.agg ZZ6) (.ialt 257 (.agg (.slice ZZ13)) (.ialt 262 (.agg (.int .i64)) .inil)))))
abbrev ZZ3 : Ty := (.agg (.prod (.int .i64) (.prod .str (.prod .str (.int .i64)))))
abbrev ZZ5 : Ty := (.agg (.prod (.int .i64) (.prod .str (.prod .bool .str))))
abbrev ZZ19 : Ty := (.prod .bool (.prod .bool .str))
abbrev ZZ7 : Ty := (.agg (.prod (.agg ZZ19) (.agg ZZ19)))
abbrev ZZ8 : Ty := (.agg (.prod .str .str))
abbrev ZZ9 : Ty := (.prod .str (.prod (.int .i64) (.int .i64)))
abbrev ZZ22 : Ty := (.slice (.agg ZZ1))
abbrev ZZ10 : Ty := (.prod (.int .i64) (.prod ZZ22 ZZ21))
abbrev ZZ11 : Ty := (.prod .str (.prod .str (.prod .str (.prod .str (.prod (.slice ZZ8) .str)))))
abbrev ZZ12 : Ty := (.prod (.int .i64) (.prod (.int .i64) (.prod ZZ22 (.slice .str))))
abbrev ZZ15 : Ty := (.prod (.int .i64) (.slice ZZ7))
abbrev ZZ17 : Ty := (.agg (.prod ZZ5 ZZ5))
abbrev ZZ18 : Ty := (.agg (.prod .str (.prod (.int .i64) (.prod .bool (.prod .bool (.int .i64))))))
abbrev ZZ20 : Ty := (.agg (.prod (.agg ZZ1) (.int .i64)))
abbrev ZZ23 : Ty := (.prod ZZ8 ZZ8)
abbrev ZZ24 : Ty := (.prod ZZ3 ZZ3)
open Go.Proofs
def tys : List (Nat × Ty) := [(3, (.int .i64)), (4, .bool), (5, (.int .u8)), (9, .str), (22, ZZ14), (23, (.slice .str)), (25, (.agg ZZ4)), (26, (.slice ZZ7)), (28, (.agg ZZ15)), (36, ZZ22), (37, ZZ21), (39, (.agg ZZ10)), (41, (.agg ZZ12)), (48, (.slice (.agg ZZ4))), (50, (.agg ZZ1)), (64, (.agg (.prod (.int .i64) .str))), (68, (.agg ZZ19)), (70, ZZ7), (76, (.map .str .bool)), (77, (.slice ZZ20)), (80, ZZ20), (88, (.slice ZZ17)), (91, ZZ5), (94, ZZ17), (99, (.slice ZZ3)), (102, ZZ3), (108, (.slice ZZ8)), (110, (.agg ZZ11)), (115, ZZ2), (119, (.map (.int .u8) (.int .i64))), (120, (.arr 6 (.map (.int .u8) (.int .i64)))), (122, (.arr 6 (.int .i64))), (131, (.int .u64)), (138, (.arr 4 (.int .i64))), (157, (.agg ZZ9)), (161, ZZ8), (179, (.slice (.agg ZZ15))), (217, ZZ18), (225, (.arr 3 (.int .i64))), (227, (.agg (.prod (.arr 3 (.int .i64)) (.slice .str)))), (233, (.agg ZZ16)), (237, (.agg ZZ6)), (245, (.slice (.int .u8))), (247, (.agg (.prod .self (.slice (.int .u8))))), (255, (.slice ZZ13)), (257, (.agg (.slice ZZ13))), (259, ZZ13), (262, (.agg (.int .i64))), (299, (.arr 5 ZZ18))]
theorem ucdr_ : tysOK Tryz.prog tys = true := by kernel_rfl
def els : List (Nat × Nat) := [(22, 64), (23, 9), (26, 70), (36, 50), (37, 3), (48, 25), (77, 80), (88, 94), (99, 102), (108, 161), (179, 28), (245, 5), (255, 259)]
theorem ucds_ : elsOK Tryz.prog els = true := by kernel_rfl
def eqs : List Nat := [64]
theorem ucdt_ : eqsOK Tryz.prog tys eqs = true := by kernel_rfl
theorem mix : Tryz.prog.follows .mixedOrders = true := by kernel_rfl
noncomputable def mname (t i : Nat) : String := (((Tryz.prog.types[t]?).bind fun x => x.methods[i]?).map fun m => m.name).getD default
noncomputable def ms : List (String × Nat × Nat) := [(mname 227 0, 227, 378), (mname 227 1, 227, 379), (mname 233 0, 233, 385), (mname 233 1, 233, 386), (mname 237 0, 237, 393), (mname 237 1, 237, 394), (mname 257 0, 257, 402), (mname 257 1, 257, 403), (mname 262 0, 262, 410), (mname 262 1, 262, 411)]
theorem ms_ok : MsOK Tryz.prog ms := ⟨(fun v w => by kernel_rfl), (fun v w => by kernel_rfl), (fun v w => by kernel_rfl), (fun v w => by kernel_rfl), (fun v w => by kernel_rfl), (fun v w => by kernel_rfl), (fun v w => by kernel_rfl), (fun v w => by kernel_rfl), (fun v w => by kernel_rfl), (fun v w => by kernel_rfl), trivial⟩
noncomputable def mkE (fs : List (Nat × FSpec)) (cs : List (Nat × CSpec)) (wr : List Nat) (dr : Bool) : Env := ⟨lookN tys, lookN fs, lookN cs, (fun d => hasN d wr), elOf Tryz.prog els, lookM ms, (fun t => hasN t eqs), dr⟩
theorem enk {dr : Bool} {fs : List (Nat × FSpec)} {cs : List (Nat × CSpec)} {wr : List Nat} (h3 : FsOK Tryz.prog fs) (h6 : (!dr || fs.all fun p => p.2.dr) = true := by kernel_rfl) : EnvOK Tryz.prog dr (mkE fs cs wr dr) := ucbg_ ucdr_ ucds_ h3 ms_ok ucdt_ h6
theorem fnk {dr : Bool} {E : Env} {f : FuncId} {fn : Func} {c : Code} {ps rs : List Sh} {F : TupR ps → Option (TupR (rs ++ ps.filter isBox))} {l : List (CSpec × Code)} (hE : EnvOK Tryz.prog dr E)
 (hf : Tryz.prog.funcs[f]? = some fn) (hc : AllCuts Tryz.prog dr fn.ntmps (okFun fn.ntmps ps) l) (hnm : (fn.name == "runtime.NumGoroutine") = false := by kernel_rfl) (hb : fn.body = some c := by kernel_rfl) (hd : dstOK (okFun fn.ntmps ps) c = true := by kernel_rfl) (hn : Nat.ble ps.length fn.ntmps = true := by kernel_rfl) (hl : Nat.beq fn.results.toList.length rs.length = true := by kernel_rfl)
 (hcs : u8p_ E c 0 = l := by kernel_rfl) (hF : ∀ v, evFun E fn ps rs v = F v := by intro v; kernel_rfl) : uo_ Tryz.prog f ∧ FunOK Tryz.prog f ⟨ps, rs, F, dr⟩ := fn_ok hE mix hf hnm hb hd hn hl hcs hc hF
theorem lok {dr : Bool} {E : Env} {N n : Nat} {body : Code} {al : List (Nat × Nat)} {inn : Kp} {outs : List (Ex × Kp)} {wrs : List Nat} {r : (TupR inn.sh → Option (OutT outs)) → TupR inn.sh → Option (OutT outs)} {l : List (CSpec × Code)} (hE : EnvOK Tryz.prog dr E)
 (hc : AllCuts Tryz.prog dr N (okCut N wrs) l) (hd : dstOK (okCut N wrs) body = true := by kernel_rfl) (hcs : u8p_ E body n = l := by kernel_rfl) (hF : ∀ next v, ub56_ E body n al inn outs next v = r next v := by intro next v; kernel_rfl) :
 CutOK Tryz.prog dr N ⟨inn, outs, wrs, loopN r fuel, al⟩ (.loop body) := uccl_ hE mix hd hcs hc hF fuel
theorem brk {dr : Bool} {E : Env} {N n : Nat} {c : Operand} {x y : Code} {al : List (Nat × Nat)} {inn : Kp} {outs : List (Ex × Kp)} {wrs : List Nat} {F : TupR inn.sh → Option (OutT outs)} {lx ly : List (CSpec × Code)} (hE : EnvOK Tryz.prog dr E)
 (hx : AllCuts Tryz.prog dr N (okCut N wrs) lx) (hy : AllCuts Tryz.prog dr N (okCut N wrs) ly) (hd : dstOK (okCut N wrs) (.cond c x y) = true := by kernel_rfl) (hcx : u8p_ E x (n + 1) = lx := by kernel_rfl) (hcy : u8p_ E y (n + 1 + nodes x) = ly := by kernel_rfl)
 (hF : ∀ v, ub8a_ E c x y n al inn outs v = F v := by intro v; kernel_rfl) : CutOK Tryz.prog dr N ⟨inn, outs, wrs, F, al⟩ (.cond c x y) := ub87_ hE mix hd hcx hcy hx hy hF
noncomputable def u2z_ : FSpec := ⟨[.val .str], [.val .bool], utd_, true⟩
noncomputable def ubgb_ : List (Nat × FSpec) := []
theorem uboj_ : FsOK Tryz.prog ubgb_ := trivial
noncomputable def u0d_ : CSpec := ⟨⟨[0, 6, 7], [.val .str, .val (.int .i64), .val (.int .i64)]⟩, [((.exit 0), ⟨[], []⟩), (.ret, ⟨[2], [.val .bool]⟩)], ([2, 3, 4] ++ seg 7 42), u2m_, []⟩
noncomputable def ubxd_ : Env := mkE ubgb_ [(0, u0d_)] [] true
theorem u8z_ : EnvOK Tryz.prog true ubxd_ := enk uboj_
noncomputable def uyk_ : Code := u5_ Tryz.f212
theorem ubl7_ : CutOK Tryz.prog true Tryz.f212.ntmps u0d_ (sub uyk_ [1, 0, 1, 0]) :=
 lok (body := sub uyk_ [1, 0, 1, 0, 0]) (n := 1) (l := []) u8z_ trivial
theorem ubgc_ : uo_ Tryz.prog 212 ∧ FunOK Tryz.prog 212 u2z_ :=
 fnk (c := uyk_) (l := [(u0d_, sub uyk_ [1, 0, 1, 0])]) u8z_ Tryz.func212 ⟨⟨by kernel_rfl, ubl7_⟩, trivial⟩
noncomputable def uuz_ : FSpec := ⟨[.val (.agg ZZ1)], [.val (.int .i64)], ujx_, true⟩
noncomputable def uu0_ : List (Nat × FSpec) := [(212, u2z_)]
theorem u4k_ : FsOK Tryz.prog uu0_ := ⟨ubgc_, trivial⟩
noncomputable def ukq_ : CSpec := ⟨⟨[1, 10, 11, 12], [.box (.val ZZ1), .val (.slice .str), .val (.int .i64), .val (.int .i64)]⟩, [((.exit 0), ⟨[], []⟩), (.ret, ⟨[2], [.val (.int .i64)]⟩)], ([2, 3, 4] ++ seg 12 28), uls_, []⟩
noncomputable def ubeb_ : Env := mkE uu0_ [(1, ukq_)] [] true
theorem urr_ : EnvOK Tryz.prog true ubeb_ := enk u4k_
noncomputable def uh3_ : Code := u5_ Tryz.f213
theorem u20_ : CutOK Tryz.prog true Tryz.f213.ntmps ukq_ (sub uh3_ [1, 1, 0, 1, 0]) :=
 lok (body := sub uh3_ [1, 1, 0, 1, 0, 0]) (n := 2) (l := []) urr_ trivial
theorem uba9_ : uo_ Tryz.prog 213 ∧ FunOK Tryz.prog 213 uuz_ :=
 fnk (c := uh3_) (l := [(ukq_, sub uh3_ [1, 1, 0, 1, 0])]) urr_ Tryz.func213 ⟨⟨by kernel_rfl, u20_⟩, trivial⟩
noncomputable def u55_ : FSpec := ⟨[], [.val (.arr 6 (.map (.int .u8) (.int .i64)))], ut8_, true⟩
noncomputable def u56_ : List (Nat × FSpec) := []
theorem ubgd_ : FsOK Tryz.prog u56_ := trivial
noncomputable def ubqt_ : Env := mkE u56_ [] [] true
theorem ubi6_ : EnvOK Tryz.prog true ubqt_ := enk ubgd_
noncomputable def ubqu_ : Code := u5_ Tryz.f61
theorem ubok_ : uo_ Tryz.prog 61 ∧ FunOK Tryz.prog 61 u55_ :=
 fnk (c := ubqu_) (l := []) ubi6_ Tryz.func61 trivial
noncomputable def u0e_ : FSpec := ⟨[.val .str], [.val (.int .i64), .val (.int .i64)], ut9_, true⟩
noncomputable def ubdg_ : List (Nat × FSpec) := [(61, u55_)]
theorem ubl8_ : FsOK Tryz.prog ubdg_ := ⟨ubok_, trivial⟩
noncomputable def uxp_ : CSpec := ⟨⟨[0, 5, 16, 17], [.val .str, .box (.val (.arr 6 (.int .i64))), .val (.arr 6 (.map (.int .u8) (.int .i64))), .val (.int .i64)]⟩, [((.exit 0), ⟨[5], [.box (.val (.arr 6 (.int .i64)))]⟩), (.ret, ⟨[2, 3], [.val (.int .i64), .val (.int .i64)]⟩)], ([2, 3, 6, 7, 8, 9] ++ seg 17 18), uz5_, []⟩
noncomputable def ubvm_ : Env := mkE ubdg_ [(1, uxp_)] [] true
theorem u57_ : EnvOK Tryz.prog true ubvm_ := enk ubl8_
noncomputable def uu1_ : Code := u5_ Tryz.f30
theorem ubi7_ : CutOK Tryz.prog true Tryz.f30.ntmps uxp_ (sub uu1_ [1, 1, 1, 1, 0, 1, 0]) :=
 lok (body := sub uu1_ [1, 1, 1, 1, 0, 1, 0, 0]) (n := 2) (l := []) u57_ trivial
theorem ubdh_ : uo_ Tryz.prog 30 ∧ FunOK Tryz.prog 30 u0e_ :=
 fnk (c := uu1_) (l := [(uxp_, sub uu1_ [1, 1, 1, 1, 0, 1, 0])]) u57_ Tryz.func30 ⟨⟨by kernel_rfl, ubi7_⟩, trivial⟩
noncomputable def ubge_ : FSpec := ⟨[.val .str], [.val .str], u2n_, true⟩
noncomputable def ubsv_ : List (Nat × FSpec) := []
theorem ubvn_ : FsOK Tryz.prog ubsv_ := trivial
noncomputable def ubba_ : CSpec := ⟨⟨[3, 9, 10], [.own 5 (.int .u8) true, .val (.int .i64), .val (.int .i64)]⟩, [((.exit 0), ⟨[3], [.own 5 (.int .u8) true]⟩)], ([4, 5] ++ seg 10 18), ubf0_, [(8, 3)]⟩
noncomputable def ub26_ : Env := mkE ubsv_ [(0, ubba_)] [7] true
theorem ublf_ : EnvOK Tryz.prog true ub26_ := enk ubvn_
noncomputable def ubbb_ : Code := u5_ Tryz.f160
theorem ubs9_ : CutOK Tryz.prog true Tryz.f160.ntmps ubba_ (sub ubbb_ [1, 1, 0, 1, 0]) :=
 lok (body := sub ubbb_ [1, 1, 0, 1, 0, 0]) (n := 1) (l := []) ublf_ trivial
theorem ubsw_ : uo_ Tryz.prog 160 ∧ FunOK Tryz.prog 160 ubge_ :=
 fnk (c := ubbb_) (l := [(ubba_, sub ubbb_ [1, 1, 0, 1, 0])]) ublf_ Tryz.func160 ⟨⟨by kernel_rfl, ubs9_⟩, trivial⟩
noncomputable def ug1_ : FSpec := ⟨[.box (.val ZZ9), .val (.int .i64)], [], ufe_, true⟩
noncomputable def u58_ : List (Nat × FSpec) := []
theorem ubgf_ : FsOK Tryz.prog u58_ := trivial
noncomputable def ubqv_ : Env := mkE u58_ [] [] true
theorem ubi8_ : EnvOK Tryz.prog true ubqv_ := enk ubgf_
noncomputable def ubqw_ : Code := u5_ Tryz.f151
theorem ui4_ : uo_ Tryz.prog 151 ∧ FunOK Tryz.prog 151 ug1_ :=
 fnk (c := ubqw_) (l := []) ubi8_ Tryz.func151 trivial
noncomputable def ui5_ : FSpec := ⟨[.val (.ptr (.agg ZZ9))], [.val (.int .u8)], uec_, true⟩
noncomputable def u59_ : List (Nat × FSpec) := []
theorem ubgg_ : FsOK Tryz.prog u59_ := trivial
noncomputable def ubqx_ : Env := mkE u59_ [] [] true
theorem ubi9_ : EnvOK Tryz.prog true ubqx_ := enk ubgg_
noncomputable def ubqy_ : Code := u5_ Tryz.f148
theorem uoe_ : uo_ Tryz.prog 148 ∧ FunOK Tryz.prog 148 ui5_ :=
 fnk (c := ubqy_) (l := []) ubi9_ Tryz.func148 trivial
noncomputable def u21_ : FSpec := ⟨[.val (.int .u8)], [.val .bool], uyp_, true⟩
noncomputable def ubgh_ : List (Nat × FSpec) := []
theorem ubol_ : FsOK Tryz.prog ubgh_ := trivial
noncomputable def ubxe_ : Env := mkE ubgh_ [] [] true
theorem ubqz_ : EnvOK Tryz.prog true ubxe_ := enk ubol_
noncomputable def ubxf_ : Code := u5_ Tryz.f238
theorem ubgi_ : uo_ Tryz.prog 238 ∧ FunOK Tryz.prog 238 u21_ :=
 fnk (c := ubxf_) (l := []) ubqz_ Tryz.func238 trivial
noncomputable def u6a_ : FSpec := ⟨[.box (.val ZZ9), .val .bool], [.val .str], uuc_, true⟩
noncomputable def u6b_ : List (Nat × FSpec) := [(148, ui5_), (151, ug1_), (160, ubge_), (238, u21_)]
theorem ubgj_ : FsOK Tryz.prog u6b_ := ⟨uoe_, ui4_, ubsw_, ubgi_, trivial⟩
noncomputable def usp_ : CSpec := ⟨⟨[0, 7], [.box (.val ZZ9), .val (.int .i64)]⟩, [((.exit 0), ⟨[0], [.box (.val ZZ9)]⟩), (.ret, ⟨[0, 4], [.box (.val ZZ9), .val .str]⟩)], ([4, 5] ++ seg 7 30), uua_, []⟩
noncomputable def usq_ : CSpec := ⟨⟨[0], [.box (.val ZZ9)]⟩, [((.exit 2), ⟨[0], [.box (.val ZZ9)]⟩)], (seg 53 29), uub_, []⟩
noncomputable def usr_ : CSpec := ⟨⟨[0, 45], [.box (.val ZZ9), .val .bool]⟩, [(.normal, ⟨[0], [.box (.val ZZ9)]⟩)], (seg 46 36), un8_, []⟩
noncomputable def ubq0_ : Env := mkE u6b_ [(0, usp_), (4, usq_), (3, usr_)] [] true
theorem uj5_ : EnvOK Tryz.prog true ubq0_ := enk ubgj_
noncomputable def ub1_ : Code := u5_ Tryz.f146
theorem ubec_ : CutOK Tryz.prog true Tryz.f146.ntmps usp_ (sub ub1_ [1, 0, 1, 0]) :=
 lok (body := sub ub1_ [1, 0, 1, 0, 0]) (n := 1) (l := []) uj5_ trivial
theorem ubed_ : CutOK Tryz.prog true Tryz.f146.ntmps usq_ (sub ub1_ [1, 1, 1, 0, 1, 1, 0]) :=
 lok (body := sub ub1_ [1, 1, 1, 0, 1, 1, 0, 0]) (n := 5) (l := []) uj5_ trivial
theorem ubee_ : CutOK Tryz.prog true Tryz.f146.ntmps usr_ (sub ub1_ [1, 1, 1, 0, 1]) :=
 brk (c := uqq_ (sub ub1_ [1, 1, 1, 0, 1])) (x := sub ub1_ [1, 1, 1, 0, 1, 0]) (y := sub ub1_ [1, 1, 1, 0, 1, 1]) (n := 3) (lx := []) (ly := [(usq_, sub ub1_ [1, 1, 1, 0, 1, 1, 0])]) uj5_ trivial ⟨⟨by kernel_rfl, ubed_⟩, trivial⟩
theorem ubom_ : uo_ Tryz.prog 146 ∧ FunOK Tryz.prog 146 u6a_ :=
 fnk (c := ub1_) (l := [(usp_, sub ub1_ [1, 0, 1, 0]), (usr_, sub ub1_ [1, 1, 1, 0, 1])]) uj5_ Tryz.func146 ⟨⟨by kernel_rfl, ubec_⟩, ⟨by kernel_rfl, ubee_⟩, trivial⟩
noncomputable def ubyl_ : FSpec := ⟨[.val (.int .u8)], [.val (.int .i64)], ubzm_, true⟩
noncomputable def ubym_ : List (Nat × FSpec) := []
theorem ubzq_ : FsOK Tryz.prog ubym_ := trivial
noncomputable def ub7o_ : Env := mkE ubym_ [] [] true
theorem ub1g_ : EnvOK Tryz.prog true ub7o_ := enk ubzq_
noncomputable def ub7p_ : Code := u5_ Tryz.f308
theorem ub5j_ : uo_ Tryz.prog 308 ∧ FunOK Tryz.prog 308 ubyl_ :=
 fnk (c := ub7p_) (l := []) ub1g_ Tryz.func308 trivial
noncomputable def u22_ : FSpec := ⟨[.box (.val ZZ9)], [.val (.int .u8), .val .bool], ur4_, true⟩
noncomputable def u23_ : List (Nat × FSpec) := [(151, ug1_), (157, uf8_), (308, ubyl_)]
theorem ubef_ : FsOK Tryz.prog u23_ := ⟨ui4_, uhr_, ub5j_, trivial⟩
noncomputable def uqw_ : CSpec := ⟨⟨[0, 6, 7, 63], [.box (.val ZZ9), .val (.int .i64), .val (.int .i64), .val .bool]⟩, [(.normal, ⟨[0, 7], [.box (.val ZZ9), .val (.int .i64)]⟩)], ([7] ++ seg 64 12), ult_, []⟩
noncomputable def uqx_ : CSpec := ⟨⟨[0, 5, 6], [.box (.val ZZ9), .val (.int .i64), .val (.int .i64)]⟩, [((.exit 0), ⟨[0, 5], [.box (.val ZZ9), .val (.int .i64)]⟩), (.ret, ⟨[0, 2, 3], [.box (.val ZZ9), .val (.int .u8), .val .bool]⟩)], ([2, 3, 5, 6, 7] ++ seg 48 42), usk_, []⟩
noncomputable def ubon_ : Env := mkE u23_ [(5, uqw_), (3, uqx_)] [] true
theorem uo4_ : EnvOK Tryz.prog true ubon_ := enk ubef_
noncomputable def udh_ : Code := u5_ Tryz.f239
theorem ubbc_ : CutOK Tryz.prog true Tryz.f239.ntmps uqw_ (sub udh_ [1, 1, 1, 1, 1, 0, 1, 0, 0, 1, 0, 0, 1, 0, 1]) :=
 brk (c := uqq_ (sub udh_ [1, 1, 1, 1, 1, 0, 1, 0, 0, 1, 0, 0, 1, 0, 1])) (x := sub udh_ [1, 1, 1, 1, 1, 0, 1, 0, 0, 1, 0, 0, 1, 0, 1, 0]) (y := sub udh_ [1, 1, 1, 1, 1, 0, 1, 0, 0, 1, 0, 0, 1, 0, 1, 1]) (n := 5) (lx := []) (ly := []) uo4_ trivial trivial
theorem ubbd_ : CutOK Tryz.prog true Tryz.f239.ntmps uqx_ (sub udh_ [1, 1, 1, 1, 1, 0, 1, 0]) :=
 lok (body := sub udh_ [1, 1, 1, 1, 1, 0, 1, 0, 0]) (n := 4) (l := [(uqw_, sub udh_ [1, 1, 1, 1, 1, 0, 1, 0, 0, 1, 0, 0, 1, 0, 1])]) uo4_ ⟨⟨by kernel_rfl, ubbc_⟩, trivial⟩
theorem ubl9_ : uo_ Tryz.prog 239 ∧ FunOK Tryz.prog 239 u22_ :=
 fnk (c := udh_) (l := [(uqx_, sub udh_ [1, 1, 1, 1, 1, 0, 1, 0])]) uo4_ Tryz.func239 ⟨⟨by kernel_rfl, ubbd_⟩, trivial⟩
noncomputable def uof_ : FSpec := ⟨[.box (.val ZZ9)], [.val .str], uhm_, true⟩
noncomputable def u6c_ : List (Nat × FSpec) := [(151, ug1_), (239, u22_)]
theorem ubgk_ : FsOK Tryz.prog u6c_ := ⟨ui4_, ubl9_, trivial⟩
noncomputable def uss_ : CSpec := ⟨⟨[0, 3], [.box (.val ZZ9), .own 5 (.int .u8) false]⟩, [((.exit 0), ⟨[0, 3], [.box (.val ZZ9), .own 5 (.int .u8) false]⟩)], (seg 3 19), uud_, []⟩
noncomputable def ubq1_ : Env := mkE u6c_ [(0, uss_)] [] true
theorem u03_ : EnvOK Tryz.prog true ubq1_ := enk ubgk_
noncomputable def upz_ : Code := u5_ Tryz.f149
theorem ubeg_ : CutOK Tryz.prog true Tryz.f149.ntmps uss_ (sub upz_ [1, 1, 0, 0]) :=
 lok (body := sub upz_ [1, 1, 0, 0, 0]) (n := 1) (l := []) u03_ trivial
theorem uu2_ : uo_ Tryz.prog 149 ∧ FunOK Tryz.prog 149 uof_ :=
 fnk (c := upz_) (l := [(uss_, sub upz_ [1, 1, 0, 0])]) u03_ Tryz.func149 ⟨⟨by kernel_rfl, ubeg_⟩, trivial⟩
noncomputable def u24_ : FSpec := ⟨[.box (.val ZZ9)], [.val (.slice .str)], umy_, true⟩
noncomputable def u25_ : List (Nat × FSpec) := [(148, ui5_), (149, uof_)]
theorem ubeh_ : FsOK Tryz.prog u25_ := ⟨uoe_, uu2_, trivial⟩
noncomputable def uqy_ : CSpec := ⟨⟨[0, 3], [.box (.val ZZ9), .own 9 .str false]⟩, [((.exit 0), ⟨[0, 3], [.box (.val ZZ9), .own 9 .str false]⟩)], ([3] ++ seg 7 22), usl_, []⟩
noncomputable def uboo_ : Env := mkE u25_ [(0, uqy_)] [] true
theorem uy1_ : EnvOK Tryz.prog true uboo_ := enk ubeh_
noncomputable def uog_ : Code := u5_ Tryz.f147
theorem ubbe_ : CutOK Tryz.prog true Tryz.f147.ntmps uqy_ (sub uog_ [1, 1, 0, 0]) :=
 lok (body := sub uog_ [1, 1, 0, 0, 0]) (n := 1) (l := []) uy1_ trivial
theorem ubma_ : uo_ Tryz.prog 147 ∧ FunOK Tryz.prog 147 u24_ :=
 fnk (c := uog_) (l := [(uqy_, sub uog_ [1, 1, 0, 0])]) uy1_ Tryz.func147 ⟨⟨by kernel_rfl, ubbe_⟩, trivial⟩
noncomputable def u26_ : FSpec := ⟨[.val (.int .u8), .val .bool], [.val .bool], uyq_, true⟩
noncomputable def ubgl_ : List (Nat × FSpec) := []
theorem ubop_ : FsOK Tryz.prog ubgl_ := trivial
noncomputable def ubxg_ : Env := mkE ubgl_ [] [] true
theorem ubq2_ : EnvOK Tryz.prog true ubxg_ := enk ubop_
noncomputable def ubxh_ : Code := u5_ Tryz.f240
theorem ubgm_ : uo_ Tryz.prog 240 ∧ FunOK Tryz.prog 240 u26_ :=
 fnk (c := ubxh_) (l := []) ubq2_ Tryz.func240 trivial
noncomputable def uu3_ : FSpec := ⟨[.box (.val ZZ9)], [.val ZZ8], ujy_, true⟩
noncomputable def uu4_ : List (Nat × FSpec) := [(148, ui5_), (149, uof_), (151, ug1_), (240, u26_)]
theorem u4l_ : FsOK Tryz.prog uu4_ := ⟨uoe_, uu2_, ui4_, ubgm_, trivial⟩
noncomputable def ukr_ : CSpec := ⟨⟨[0, 3], [.box (.val ZZ9), .val (.int .i64)]⟩, [((.exit 0), ⟨[0], [.box (.val ZZ9)]⟩)], (seg 9 35), ulu_, []⟩
noncomputable def ubei_ : Env := mkE uu4_ [(0, ukr_)] [] true
theorem urs_ : EnvOK Tryz.prog true ubei_ := enk u4l_
noncomputable def uh4_ : Code := u5_ Tryz.f150
theorem u27_ : CutOK Tryz.prog true Tryz.f150.ntmps ukr_ (sub uh4_ [1, 1, 0, 0]) :=
 lok (body := sub uh4_ [1, 1, 0, 0, 0]) (n := 1) (l := []) urs_ trivial
theorem ubbf_ : uo_ Tryz.prog 150 ∧ FunOK Tryz.prog 150 uu3_ :=
 fnk (c := uh4_) (l := [(ukr_, sub uh4_ [1, 1, 0, 0])]) urs_ Tryz.func150 ⟨⟨by kernel_rfl, u27_⟩, trivial⟩
noncomputable def u6d_ : FSpec := ⟨[.box (.val ZZ9)], [.tr (.pr (.val .str) (.pr (.val .str) (.pr (.val .str) (.pr (.val .str) (.pr (.own 161 ZZ8 true) (.val .str))))))], uug_, false⟩
noncomputable def u6e_ : List (Nat × FSpec) := [(100, uni_), (146, u6a_), (147, u24_), (148, ui5_), (149, uof_), (150, uu3_), (151, ug1_)]
theorem ubgn_ : FsOK Tryz.prog u6e_ := ⟨urq_, ubom_, ubma_, uoe_, uu2_, ubbf_, ui4_, trivial⟩
noncomputable def ust_ : CSpec := ⟨⟨[0, 3, 40], [.box (.val ZZ9), .box (.pr (.val .str) (.pr (.val .str) (.pr (.val .str) (.pr (.val .str) (.pr (.own 161 ZZ8 true) (.val .str)))))), .val .bool]⟩, [(.normal, ⟨[0, 3], [.box (.val ZZ9), .box (.pr (.val .str) (.pr (.val .str) (.pr (.val .str) (.pr (.val .str) (.pr (.own 161 ZZ8 true) (.val .str))))))]⟩)], (seg 41 10), un9_, []⟩
noncomputable def usu_ : CSpec := ⟨⟨[0, 3, 5], [.box (.val ZZ9), .box (.pr (.val .str) (.pr (.val .str) (.pr (.val .str) (.pr (.val .str) (.pr (.own 161 ZZ8 true) (.val .str)))))), .val (.int .u8)]⟩, [((.exit 0), ⟨[0, 3], [.box (.val ZZ9), .box (.pr (.val .str) (.pr (.val .str) (.pr (.val .str) (.pr (.val .str) (.pr (.own 161 ZZ8 true) (.val .str))))))]⟩)], ([5] ++ seg 51 37), uuf_, []⟩
noncomputable def usv_ : CSpec := ⟨⟨[0, 3, 97], [.box (.val ZZ9), .box (.pr (.val .str) (.pr (.val .str) (.pr (.val .str) (.pr (.val .str) (.pr (.own 161 ZZ8 true) (.val .str)))))), .val .bool]⟩, [(.normal, ⟨[0, 3], [.box (.val ZZ9), .box (.pr (.val .str) (.pr (.val .str) (.pr (.val .str) (.pr (.val .str) (.pr (.own 161 ZZ8 true) (.val .str))))))]⟩)], (seg 98 11), uoa_, []⟩
noncomputable def ubq3_ : Env := mkE u6e_ [(1, ust_), (2, usu_), (4, usv_)] [2, 8, 14, 132] false
theorem uj6_ : EnvOK Tryz.prog false ubq3_ := enk ubgn_
noncomputable def ubk_ : Code := u5_ Tryz.f86
theorem ubej_ : CutOK Tryz.prog false Tryz.f86.ntmps ust_ (sub ubk_ [1, 1, 1, 1, 1, 0, 1]) :=
 brk (c := uqq_ (sub ubk_ [1, 1, 1, 1, 1, 0, 1])) (x := sub ubk_ [1, 1, 1, 1, 1, 0, 1, 0]) (y := sub ubk_ [1, 1, 1, 1, 1, 0, 1, 1]) (n := 1) (lx := []) (ly := []) uj6_ trivial trivial
theorem ubek_ : CutOK Tryz.prog false Tryz.f86.ntmps usu_ (sub ubk_ [1, 1, 1, 1, 1, 1, 0, 1, 0]) :=
 lok (body := sub ubk_ [1, 1, 1, 1, 1, 1, 0, 1, 0, 0]) (n := 3) (l := []) uj6_ trivial
theorem ubel_ : CutOK Tryz.prog false Tryz.f86.ntmps usv_ (sub ubk_ [1, 1, 1, 1, 1, 1, 1, 0, 1]) :=
 brk (c := uqq_ (sub ubk_ [1, 1, 1, 1, 1, 1, 1, 0, 1])) (x := sub ubk_ [1, 1, 1, 1, 1, 1, 1, 0, 1, 0]) (y := sub ubk_ [1, 1, 1, 1, 1, 1, 1, 0, 1, 1]) (n := 4) (lx := []) (ly := []) uj6_ trivial trivial
theorem uboq_ : uo_ Tryz.prog 86 ∧ FunOK Tryz.prog 86 u6d_ :=
 fnk (c := ubk_) (l := [(ust_, sub ubk_ [1, 1, 1, 1, 1, 0, 1]), (usu_, sub ubk_ [1, 1, 1, 1, 1, 1, 0, 1, 0]), (usv_, sub ubk_ [1, 1, 1, 1, 1, 1, 1, 0, 1])]) uj6_ Tryz.func86 ⟨⟨by kernel_rfl, ubej_⟩, ⟨by kernel_rfl, ubek_⟩, ⟨by kernel_rfl, ubel_⟩, trivial⟩
noncomputable def ug2_ : FSpec := ⟨[.io 161 ZZ8, .val (.int .i64), .val (.int .i64), .hof false ZZ23 (.int .i64)], [], ubq_, false⟩
noncomputable def ug3_ : List (Nat × FSpec) := []
theorem unn_ : FsOK Tryz.prog ug3_ := trivial
noncomputable def uds_ : CSpec := ⟨⟨[0, 1, 3, 9], [.own 161 ZZ8 true, .val (.int .i64), .hof false ZZ23 (.int .i64), .val (.int .i64)]⟩, [((.exit 2), ⟨[0], [.own 161 ZZ8 true]⟩)], ([9] ++ seg 18 35), ud1_, []⟩
noncomputable def udt_ : CSpec := ⟨⟨[0, 1, 2, 3, 8], [.own 161 ZZ8 true, .val (.int .i64), .val (.int .i64), .hof false ZZ23 (.int .i64), .val (.int .i64)]⟩, [((.exit 0), ⟨[0], [.own 161 ZZ8 true]⟩)], ([8, 9] ++ seg 12 41), ud2_, []⟩
noncomputable def uqz_ : Env := mkE ug3_ [(2, uds_), (0, udt_)] [] false
theorem udq_ : EnvOK Tryz.prog false uqz_ := enk unn_
noncomputable def u9_ : Code := u5_ Tryz.f241
theorem um1_ : CutOK Tryz.prog false Tryz.f241.ntmps uds_ (sub u9_ [1, 0, 0, 1, 0, 0, 1, 0]) :=
 lok (body := sub u9_ [1, 0, 0, 1, 0, 0, 1, 0, 0]) (n := 3) (l := []) udq_ trivial
theorem um2_ : CutOK Tryz.prog false Tryz.f241.ntmps udt_ (sub u9_ [1, 0]) :=
 lok (body := sub u9_ [1, 0, 0]) (n := 1) (l := [(uds_, sub u9_ [1, 0, 0, 1, 0, 0, 1, 0])]) udq_ ⟨⟨by kernel_rfl, um1_⟩, trivial⟩
theorem up0_ : uo_ Tryz.prog 241 ∧ FunOK Tryz.prog 241 ug2_ :=
 fnk (c := u9_) (l := [(udt_, sub u9_ [1, 0])]) udq_ Tryz.func241 ⟨⟨by kernel_rfl, um2_⟩, trivial⟩
noncomputable def uia_ : FSpec := ⟨[.io 161 ZZ8, .val (.int .i64), .val (.int .i64), .val (.int .i64), .hof false ZZ23 (.int .i64)], [], ubp_, true⟩
noncomputable def uib_ : List (Nat × FSpec) := []
theorem uq0_ : FsOK Tryz.prog uib_ := trivial
noncomputable def uel_ : CSpec := ⟨⟨[0, 1, 2, 3, 10], [.own 161 ZZ8 true, .val (.int .i64), .val (.int .i64), .val (.int .i64), .val (.int .i64)]⟩, [((.exit 0), ⟨[0], [.own 161 ZZ8 true]⟩)], (seg 10 28), ue1_, []⟩
noncomputable def uu5_ : Env := mkE uib_ [(0, uel_)] [] true
theorem uhk_ : EnvOK Tryz.prog true uu5_ := enk uq0_
noncomputable def udi_ : Code := u5_ Tryz.f339
theorem up1_ : CutOK Tryz.prog true Tryz.f339.ntmps uel_ (sub udi_ [1, 0]) :=
 lok (body := sub udi_ [1, 0, 0]) (n := 1) (l := []) uhk_ trivial
theorem ut1_ : uo_ Tryz.prog 339 ∧ FunOK Tryz.prog 339 uia_ :=
 fnk (c := udi_) (l := [(uel_, sub udi_ [1, 0])]) uhk_ Tryz.func339 ⟨⟨by kernel_rfl, up1_⟩, trivial⟩
noncomputable def uks_ : FSpec := ⟨[.io 161 ZZ8, .val (.int .i64), .val (.int .i64), .val (.int .i64), .hof false ZZ23 (.int .i64)], [], uez_, true⟩
noncomputable def ukt_ : List (Nat × FSpec) := [(339, uia_)]
theorem ut2_ : FsOK Tryz.prog ukt_ := ⟨ut1_, trivial⟩
noncomputable def ufr_ : CSpec := ⟨⟨[0, 2, 4, 10, 11], [.own 161 ZZ8 true, .val (.int .i64), .hof false ZZ23 (.int .i64), .val (.int .i64), .val (.int .i64)]⟩, [((.exit 0), ⟨[0, 10], [.own 161 ZZ8 true, .val (.int .i64)]⟩)], ([10, 11] ++ seg 18 32), uf3_, []⟩
noncomputable def uy2_ : Env := mkE ukt_ [(0, ufr_)] [] true
theorem ui6_ : EnvOK Tryz.prog true uy2_ := enk ut2_
noncomputable def uea_ : Code := u5_ Tryz.f309
theorem usw_ : CutOK Tryz.prog true Tryz.f309.ntmps ufr_ (sub uea_ [1, 1, 0, 0]) :=
 lok (body := sub uea_ [1, 1, 0, 0, 0]) (n := 1) (l := []) ui6_ trivial
theorem uxq_ : uo_ Tryz.prog 309 ∧ FunOK Tryz.prog 309 uks_ :=
 fnk (c := uea_) (l := [(ufr_, sub uea_ [1, 1, 0, 0])]) ui6_ Tryz.func309 ⟨⟨by kernel_rfl, usw_⟩, trivial⟩
noncomputable def un_ (n : Nat) : FSpec := ⟨[.io 161 ZZ8, .val (.int .i64), .val (.int .i64), .val (.int .i64), .hof false ZZ23 (.int .i64)], [], ur_ n, false⟩
noncomputable def ui7_ : FSpec := ⟨[.io 161 ZZ8, .val (.int .i64), .val (.int .i64), .val (.int .i64), .hof false ZZ23 (.int .i64)], [], ucp_, false⟩
noncomputable def ui8_ (n : Nat) : List (Nat × FSpec) := [(242, (un_ n)), (309, uks_)]
theorem urt_ (n : Nat) (ih : uo_ Tryz.prog 242 ∧ FunOK Tryz.prog 242 (un_ n)) : FsOK Tryz.prog (ui8_ n) := ⟨ih, uxq_, trivial⟩
noncomputable def ue4_ (n : Nat) : CSpec := ⟨⟨[0, 1, 4, 10, 11], [.own 161 ZZ8 true, .val (.int .i64), .hof false ZZ23 (.int .i64), .val (.int .i64), .val (.int .i64)]⟩, [((.exit 0), ⟨[0, 10], [.own 161 ZZ8 true, .val (.int .i64)]⟩)], ([10, 11, 12] ++ seg 31 23), (uff_ (ur_ n)), []⟩
noncomputable def ue5_ (n : Nat) : CSpec := ⟨⟨[0, 10, 13], [.own 161 ZZ8 true, .val (.int .i64), .val (.int .i64)]⟩, [((.exit 2), ⟨[0], [.own 161 ZZ8 true]⟩)], ([13] ++ seg 55 22), (ufg_ (ur_ n)), []⟩
noncomputable def ue6_ (n : Nat) : CSpec := ⟨⟨[0, 2, 4, 14, 15], [.own 161 ZZ8 true, .val (.int .i64), .hof false ZZ23 (.int .i64), .val (.int .i64), .val (.int .i64)]⟩, [((.exit 4), ⟨[0, 14], [.own 161 ZZ8 true, .val (.int .i64)]⟩)], ([14, 15, 16] ++ seg 83 24), (ufh_ (ur_ n)), []⟩
noncomputable def uem_ (n : Nat) : CSpec := ⟨⟨[0, 14, 17], [.own 161 ZZ8 true, .val (.int .i64), .val (.int .i64)]⟩, [((.exit 6), ⟨[0], [.own 161 ZZ8 true]⟩)], ([17] ++ seg 108 21), (ue2_ (ur_ n)), []⟩
noncomputable def uen_ (n : Nat) : CSpec := ⟨⟨[1, 2, 3, 18, 19, 140], [.val (.int .i64), .val (.int .i64), .val (.int .i64), .val (.int .i64), .val (.int .i64), .val .bool]⟩, [(.normal, ⟨[20, 21], [.val (.int .i64), .val (.int .i64)]⟩)], [20, 21, 141, 142, 143, 144, 145, 146], (uc7_ (ur_ n)), []⟩
noncomputable def ueo_ (n : Nat) : CSpec := ⟨⟨[0, 4, 20, 21, 22], [.own 161 ZZ8 true, .hof false ZZ23 (.int .i64), .val (.int .i64), .val (.int .i64), .val (.int .i64)]⟩, [((.exit 8), ⟨[0, 20], [.own 161 ZZ8 true, .val (.int .i64)]⟩)], ([20, 21, 23] ++ seg 149 26), (ue3_ (ur_ n)), []⟩
noncomputable def uep_ (n : Nat) : CSpec := ⟨⟨[0, 2, 4, 20, 24, 185], [.own 161 ZZ8 true, .val (.int .i64), .hof false ZZ23 (.int .i64), .val (.int .i64), .val (.int .i64), .val .bool]⟩, [(.normal, ⟨[0], [.own 161 ZZ8 true]⟩)], [186, 187, 188, 189, 190, 191], (uc8_ (ur_ n)), []⟩
noncomputable def ueq_ (n : Nat) : CSpec := ⟨⟨[0, 1, 4, 18, 20, 199], [.own 161 ZZ8 true, .val (.int .i64), .hof false ZZ23 (.int .i64), .val (.int .i64), .val (.int .i64), .val .bool]⟩, [(.normal, ⟨[0], [.own 161 ZZ8 true]⟩)], [200, 201, 202, 203, 204, 205], (uc9_ (ur_ n)), []⟩
noncomputable def uv7_ (n : Nat) : Env := mkE (ui8_ n) [(1, (ue4_ n)), (4, (ue5_ n)), (7, (ue6_ n)), (10, (uem_ n)), (12, (uen_ n)), (13, (ueo_ n)), (16, (uep_ n)), (17, (ueq_ n))] [] false
theorem u3_ (n : Nat) (ih : uo_ Tryz.prog 242 ∧ FunOK Tryz.prog 242 (un_ n)) : EnvOK Tryz.prog false (uv7_ n) := enk (urt_ n ih)
noncomputable def uf_ : Code := u5_ Tryz.f242
theorem uq1_ (n : Nat) (ih : uo_ Tryz.prog 242 ∧ FunOK Tryz.prog 242 (un_ n)) : CutOK Tryz.prog false Tryz.f242.ntmps (ue4_ n) (sub uf_ [0, 1, 0, 1, 1, 0, 0]) :=
 lok (body := sub uf_ [0, 1, 0, 1, 1, 0, 0, 0]) (n := 2) (l := []) (u3_ n ih) trivial
theorem uq2_ (n : Nat) (ih : uo_ Tryz.prog 242 ∧ FunOK Tryz.prog 242 (un_ n)) : CutOK Tryz.prog false Tryz.f242.ntmps (ue5_ n) (sub uf_ [0, 1, 0, 1, 1, 1, 0, 1, 0]) :=
 lok (body := sub uf_ [0, 1, 0, 1, 1, 1, 0, 1, 0, 0]) (n := 5) (l := []) (u3_ n ih) trivial
theorem uq3_ (n : Nat) (ih : uo_ Tryz.prog 242 ∧ FunOK Tryz.prog 242 (un_ n)) : CutOK Tryz.prog false Tryz.f242.ntmps (ue6_ n) (sub uf_ [1, 0, 1, 0, 1, 1, 0, 0]) :=
 lok (body := sub uf_ [1, 0, 1, 0, 1, 1, 0, 0, 0]) (n := 8) (l := []) (u3_ n ih) trivial
theorem up2_ (n : Nat) (ih : uo_ Tryz.prog 242 ∧ FunOK Tryz.prog 242 (un_ n)) : CutOK Tryz.prog false Tryz.f242.ntmps (uem_ n) (sub uf_ [1, 0, 1, 0, 1, 1, 1, 0, 1, 0]) :=
 lok (body := sub uf_ [1, 0, 1, 0, 1, 1, 1, 0, 1, 0, 0]) (n := 11) (l := []) (u3_ n ih) trivial
theorem up3_ (n : Nat) (ih : uo_ Tryz.prog 242 ∧ FunOK Tryz.prog 242 (un_ n)) : CutOK Tryz.prog false Tryz.f242.ntmps (uen_ n) (sub uf_ [1, 1, 1, 1, 1, 0, 1]) :=
 brk (c := uqq_ (sub uf_ [1, 1, 1, 1, 1, 0, 1])) (x := sub uf_ [1, 1, 1, 1, 1, 0, 1, 0]) (y := sub uf_ [1, 1, 1, 1, 1, 0, 1, 1]) (n := 12) (lx := []) (ly := []) (u3_ n ih) trivial trivial
theorem up4_ (n : Nat) (ih : uo_ Tryz.prog 242 ∧ FunOK Tryz.prog 242 (un_ n)) : CutOK Tryz.prog false Tryz.f242.ntmps (ueo_ n) (sub uf_ [1, 1, 1, 1, 1, 1, 1, 0, 0]) :=
 lok (body := sub uf_ [1, 1, 1, 1, 1, 1, 1, 0, 0, 0]) (n := 14) (l := []) (u3_ n ih) trivial
theorem up5_ (n : Nat) (ih : uo_ Tryz.prog 242 ∧ FunOK Tryz.prog 242 (un_ n)) : CutOK Tryz.prog false Tryz.f242.ntmps (uep_ n) (sub uf_ [1, 1, 1, 1, 1, 1, 1, 1, 1, 0, 1]) :=
 brk (c := uqq_ (sub uf_ [1, 1, 1, 1, 1, 1, 1, 1, 1, 0, 1])) (x := sub uf_ [1, 1, 1, 1, 1, 1, 1, 1, 1, 0, 1, 0]) (y := sub uf_ [1, 1, 1, 1, 1, 1, 1, 1, 1, 0, 1, 1]) (n := 16) (lx := []) (ly := []) (u3_ n ih) trivial trivial
theorem up6_ (n : Nat) (ih : uo_ Tryz.prog 242 ∧ FunOK Tryz.prog 242 (un_ n)) : CutOK Tryz.prog false Tryz.f242.ntmps (ueq_ n) (sub uf_ [1, 1, 1, 1, 1, 1, 1, 1, 1, 1, 0, 1]) :=
 brk (c := uqq_ (sub uf_ [1, 1, 1, 1, 1, 1, 1, 1, 1, 1, 0, 1])) (x := sub uf_ [1, 1, 1, 1, 1, 1, 1, 1, 1, 1, 0, 1, 0]) (y := sub uf_ [1, 1, 1, 1, 1, 1, 1, 1, 1, 1, 0, 1, 1]) (n := 17) (lx := []) (ly := []) (u3_ n ih) trivial trivial
theorem usx_ (n : Nat) (ih : uo_ Tryz.prog 242 ∧ FunOK Tryz.prog 242 (un_ n)) : uo_ Tryz.prog 242 ∧ FunOK Tryz.prog 242 (un_ (n + 1)) :=
 fnk (c := uf_) (l := [((ue4_ n), sub uf_ [0, 1, 0, 1, 1, 0, 0]), ((ue5_ n), sub uf_ [0, 1, 0, 1, 1, 1, 0, 1, 0]), ((ue6_ n), sub uf_ [1, 0, 1, 0, 1, 1, 0, 0]), ((uem_ n), sub uf_ [1, 0, 1, 0, 1, 1, 1, 0, 1, 0]), ((uen_ n), sub uf_ [1, 1, 1, 1, 1, 0, 1]), ((ueo_ n), sub uf_ [1, 1, 1, 1, 1, 1, 1, 0, 0]), ((uep_ n), sub uf_ [1, 1, 1, 1, 1, 1, 1, 1, 1, 0, 1]), ((ueq_ n), sub uf_ [1, 1, 1, 1, 1, 1, 1, 1, 1, 1, 0, 1])]) (u3_ n ih) Tryz.func242 ⟨⟨by kernel_rfl, (uq1_ n ih)⟩, ⟨by kernel_rfl, (uq2_ n ih)⟩, ⟨by kernel_rfl, (uq3_ n ih)⟩, ⟨by kernel_rfl, (up2_ n ih)⟩, ⟨by kernel_rfl, (up3_ n ih)⟩, ⟨by kernel_rfl, (up4_ n ih)⟩, ⟨by kernel_rfl, (up5_ n ih)⟩, ⟨by kernel_rfl, (up6_ n ih)⟩, trivial⟩
theorem usy_ : ∀ n, uo_ Tryz.prog 242 ∧ FunOK Tryz.prog 242 (un_ n) := fun n => Nat.rec ⟨⟨Tryz.f242, uf_, Tryz.func242, by kernel_rfl, by kernel_rfl⟩, fun w I v args bs _ _ _ r hr => by cases hr⟩ (fun n ih => usx_ n ih) n
theorem uu6_ : uo_ Tryz.prog 242 ∧ FunOK Tryz.prog 242 ui7_ := usy_ 100
noncomputable def uku_ : FSpec := ⟨[.io 161 ZZ8, .val (.int .i64), .hof false ZZ23 (.int .i64)], [], ue0_, false⟩
noncomputable def ukv_ : List (Nat × FSpec) := [(241, ug2_), (242, ui7_)]
theorem ut3_ : FsOK Tryz.prog ukv_ := ⟨up0_, uu6_, trivial⟩
noncomputable def ufs_ : CSpec := ⟨⟨[0, 1, 2, 6, 7, 8], [.own 161 ZZ8 true, .val (.int .i64), .hof false ZZ23 (.int .i64), .val (.int .i64), .val (.int .i64), .val (.int .i64)]⟩, [((.exit 0), ⟨[0, 7], [.own 161 ZZ8 true, .val (.int .i64)]⟩)], ([7, 8] ++ seg 11 12), uf4_, []⟩
noncomputable def uft_ : CSpec := ⟨⟨[0, 1, 2, 6, 7, 8], [.own 161 ZZ8 true, .val (.int .i64), .hof false ZZ23 (.int .i64), .val (.int .i64), .val (.int .i64), .val (.int .i64)]⟩, [((.exit 4), ⟨[0, 7], [.own 161 ZZ8 true, .val (.int .i64)]⟩)], ([7, 8] ++ seg 33 16), uf5_, []⟩
noncomputable def ufu_ : CSpec := ⟨⟨[0, 1, 2, 6], [.own 161 ZZ8 true, .val (.int .i64), .hof false ZZ23 (.int .i64), .val (.int .i64)]⟩, [((.exit 2), ⟨[0], [.own 161 ZZ8 true]⟩)], ([6, 7, 8, 9] ++ seg 28 35), uf6_, []⟩
noncomputable def uy3_ : Env := mkE ukv_ [(0, ufs_), (4, uft_), (2, ufu_)] [] false
theorem udj_ : EnvOK Tryz.prog false uy3_ := enk ut3_
noncomputable def u8_ : Code := u5_ Tryz.f152
theorem usz_ : CutOK Tryz.prog false Tryz.f152.ntmps ufs_ (sub u8_ [1, 1, 0, 0]) :=
 lok (body := sub u8_ [1, 1, 0, 0, 0]) (n := 1) (l := []) udj_ trivial
theorem us0_ : CutOK Tryz.prog false Tryz.f152.ntmps uft_ (sub u8_ [1, 1, 1, 1, 0, 0, 1, 0, 1, 0, 0]) :=
 lok (body := sub u8_ [1, 1, 1, 1, 0, 0, 1, 0, 1, 0, 0, 0]) (n := 5) (l := []) udj_ trivial
theorem us1_ : CutOK Tryz.prog false Tryz.f152.ntmps ufu_ (sub u8_ [1, 1, 1, 1, 0]) :=
 lok (body := sub u8_ [1, 1, 1, 1, 0, 0]) (n := 3) (l := [(uft_, sub u8_ [1, 1, 1, 1, 0, 0, 1, 0, 1, 0, 0])]) udj_ ⟨⟨by kernel_rfl, us0_⟩, trivial⟩
theorem uxr_ : uo_ Tryz.prog 152 ∧ FunOK Tryz.prog 152 uku_ :=
 fnk (c := u8_) (l := [(ufs_, sub u8_ [1, 1, 0, 0]), (ufu_, sub u8_ [1, 1, 1, 1, 0])]) udj_ Tryz.func152 ⟨⟨by kernel_rfl, usz_⟩, ⟨by kernel_rfl, us1_⟩, trivial⟩
noncomputable def uju_ : FSpec := ⟨[.io 161 ZZ8, .hof false ZZ23 (.int .i64)], [], uef_, false⟩
noncomputable def ujv_ : List (Nat × FSpec) := [(152, uku_)]
theorem us2_ : FsOK Tryz.prog ujv_ := ⟨uxr_, trivial⟩
noncomputable def uxs_ : Env := mkE ujv_ [] [] false
theorem ut4_ : EnvOK Tryz.prog false uxs_ := enk us2_
noncomputable def uxt_ : Code := u5_ Tryz.f87
theorem uv8_ : uo_ Tryz.prog 87 ∧ FunOK Tryz.prog 87 uju_ :=
 fnk (c := uxt_) (l := []) ut4_ Tryz.func87 trivial
noncomputable def u6f_ : FSpec := ⟨[.val .str], [.val .bool], uki_, true⟩
noncomputable def u6g_ : List (Nat × FSpec) := []
theorem ubgo_ : FsOK Tryz.prog u6g_ := trivial
noncomputable def ubq4_ : Env := mkE u6g_ [] [] true
theorem ubja_ : EnvOK Tryz.prog true ubq4_ := enk ubgo_
noncomputable def ubq5_ : Code := u5_ Tryz.f122
theorem ubor_ : uo_ Tryz.prog 122 ∧ FunOK Tryz.prog 122 u6f_ :=
 fnk (c := ubq5_) (l := []) ubja_ Tryz.func122 trivial
noncomputable def uhc_ : FSpec := ⟨[.val .str, .val .str], [.val (.int .i64)], ud3_, true⟩
noncomputable def u04_ : List (Nat × FSpec) := [(122, u6f_)]
theorem ubbg_ : FsOK Tryz.prog u04_ := ⟨ubor_, trivial⟩
noncomputable def ubmb_ : Env := mkE u04_ [] [] true
theorem ubem_ : EnvOK Tryz.prog true ubmb_ := enk ubbg_
noncomputable def ubmc_ : Code := u5_ Tryz.f69
theorem uj7_ : uo_ Tryz.prog 69 ∧ FunOK Tryz.prog 69 uhc_ :=
 fnk (c := ubmc_) (l := []) ubem_ Tryz.func69 trivial
noncomputable def ublg_ : FSpec := ⟨[.val ZZ8, .val ZZ8], [.val (.int .i64)], ubay_, true⟩
noncomputable def ublh_ : List (Nat × FSpec) := [(69, uhc_)]
theorem ubq6_ : FsOK Tryz.prog ublh_ := ⟨uj7_, trivial⟩
noncomputable def ubzr_ : Env := mkE ublh_ [] [] true
theorem ubta_ : EnvOK Tryz.prog true ubzr_ := enk ubq6_
noncomputable def ubzs_ : Code := u5_ Tryz.f88
theorem ubxi_ : uo_ Tryz.prog 88 ∧ FunOK Tryz.prog 88 ublg_ :=
 fnk (c := ubzs_) (l := []) ubta_ Tryz.func88 trivial
noncomputable def ubgp_ : FSpec := ⟨[], [.val (.arr 5 ZZ18)], ubob_, true⟩
noncomputable def ubsx_ : List (Nat × FSpec) := []
theorem ubvo_ : FsOK Tryz.prog ubsx_ := trivial
noncomputable def ub27_ : Env := mkE ubsx_ [] [] true
theorem ubxj_ : EnvOK Tryz.prog true ub27_ := enk ubvo_
noncomputable def ub28_ : Code := u5_ Tryz.f244
theorem ubsy_ : uo_ Tryz.prog 244 ∧ FunOK Tryz.prog 244 ubgp_ :=
 fnk (c := ub28_) (l := []) ubxj_ Tryz.func244 trivial
noncomputable def ubsz_ : FSpec := ⟨[.val .str], [.val (.int .i64)], uboc_, true⟩
noncomputable def ubs0_ : List (Nat × FSpec) := [(244, ubgp_)]
theorem ubvp_ : FsOK Tryz.prog ubs0_ := ⟨ubsy_, trivial⟩
noncomputable def ubbh_ : CSpec := ⟨⟨[0, 5, 6], [.val .str, .val (.arr 5 ZZ18), .val (.int .i64)]⟩, [((.exit 0), ⟨[], []⟩), (.ret, ⟨[2], [.val (.int .i64)]⟩)], ([2, 3, 4] ++ seg 6 10), ubf1_, []⟩
noncomputable def ub29_ : Env := mkE ubs0_ [(0, ubbh_)] [] true
theorem ubli_ : EnvOK Tryz.prog true ub29_ := enk ubvp_
noncomputable def ubbi_ : Code := u5_ Tryz.f243
theorem ubtb_ : CutOK Tryz.prog true Tryz.f243.ntmps ubbh_ (sub ubbi_ [1, 0, 1, 0]) :=
 lok (body := sub ubbi_ [1, 0, 1, 0, 0]) (n := 1) (l := []) ubli_ trivial
theorem ub1h_ : uo_ Tryz.prog 243 ∧ FunOK Tryz.prog 243 ubsz_ :=
 fnk (c := ubbi_) (l := [(ubbh_, sub ubbi_ [1, 0, 1, 0])]) ubli_ Tryz.func243 ⟨⟨by kernel_rfl, ubtb_⟩, trivial⟩
noncomputable def ubmd_ : FSpec := ⟨[.val .str], [.val ZZ18, .val (.int .i64)], ubod_, true⟩
noncomputable def ubvq_ : List (Nat × FSpec) := [(243, ubsz_), (244, ubgp_)]
theorem ubxk_ : FsOK Tryz.prog ubvq_ := ⟨ub1h_, ubsy_, trivial⟩
noncomputable def ub5k_ : Env := mkE ubvq_ [] [] true
theorem ubzt_ : EnvOK Tryz.prog true ub5k_ := enk ubxk_
noncomputable def ub5l_ : Code := u5_ Tryz.f153
theorem ubvr_ : uo_ Tryz.prog 153 ∧ FunOK Tryz.prog 153 ubmd_ :=
 fnk (c := ub5l_) (l := []) ubzt_ Tryz.func153 trivial
noncomputable def ubvs_ : FSpec := ⟨[.val (.agg ZZ11)], [.val .bool], ubun_, true⟩
noncomputable def ubvt_ : List (Nat × FSpec) := []
theorem ubxl_ : FsOK Tryz.prog ubvt_ := trivial
noncomputable def ubgq_ : CSpec := ⟨⟨[15, 16, 17], [.own 9 .str false, .val (.int .i64), .val (.int .i64)]⟩, [((.exit 0), ⟨[], []⟩), (.ret, ⟨[2], [.val .bool]⟩)], ([2, 4] ++ seg 17 8), ubl1_, []⟩
noncomputable def ubgr_ : CSpec := ⟨⟨[26, 27, 28], [.val (.slice ZZ8), .val (.int .i64), .val (.int .i64)]⟩, [((.exit 2), ⟨[], []⟩), (.ret, ⟨[2], [.val .bool]⟩)], ([2, 6] ++ seg 28 15), ubl2_, []⟩
noncomputable def ub5m_ : Env := mkE ubvt_ [(0, ubgq_), (3, ubgr_)] [] true
theorem ubbj_ : EnvOK Tryz.prog true ub5m_ := enk ubxl_
noncomputable def uxu_ : Code := u5_ Tryz.f154
theorem ubvu_ : CutOK Tryz.prog true Tryz.f154.ntmps ubgq_ (sub uxu_ [1, 0, 1, 0]) :=
 lok (body := sub uxu_ [1, 0, 1, 0, 0]) (n := 1) (l := []) ubbj_ trivial
theorem ubvv_ : CutOK Tryz.prog true Tryz.f154.ntmps ubgr_ (sub uxu_ [1, 1, 0, 1, 0]) :=
 lok (body := sub uxu_ [1, 1, 0, 1, 0, 0]) (n := 4) (l := []) ubbj_ trivial
theorem ub3a_ : uo_ Tryz.prog 154 ∧ FunOK Tryz.prog 154 ubvs_ :=
 fnk (c := uxu_) (l := [(ubgq_, sub uxu_ [1, 0, 1, 0]), (ubgr_, sub uxu_ [1, 1, 0, 1, 0])]) ubbj_ Tryz.func154 ⟨⟨by kernel_rfl, ubvu_⟩, ⟨by kernel_rfl, ubvv_⟩, trivial⟩
noncomputable def u28_ : FSpec := ⟨[.val .str], [.val (.slice .str)], ute_, true⟩
noncomputable def ubgs_ : List (Nat × FSpec) := [(245, u2y_)]
theorem ubos_ : FsOK Tryz.prog ubgs_ := ⟨ubga_, trivial⟩
noncomputable def ubxm_ : Env := mkE ubgs_ [] [] true
theorem ubq7_ : EnvOK Tryz.prog true ubxm_ := enk ubos_
noncomputable def ubxn_ : Code := u5_ Tryz.f156
theorem ubgt_ : uo_ Tryz.prog 156 ∧ FunOK Tryz.prog 156 u28_ :=
 fnk (c := ubxn_) (l := []) ubq7_ Tryz.func156 trivial
noncomputable def ubdi_ : FSpec := ⟨[.val (.slice .str), .val .bool], [.val .bool], uuh_, true⟩
noncomputable def ubdj_ : List (Nat × FSpec) := []
theorem ubme_ : FsOK Tryz.prog ubdj_ := trivial
noncomputable def uxv_ : CSpec := ⟨⟨[1, 7, 8, 9], [.val .bool, .val (.slice .str), .val (.int .i64), .val (.int .i64)]⟩, [((.exit 0), ⟨[], []⟩), (.ret, ⟨[4], [.val .bool]⟩)], ([4, 6] ++ seg 9 18), uz6_, []⟩
noncomputable def ubvw_ : Env := mkE ubdj_ [(0, uxv_)] [] true
theorem u6h_ : EnvOK Tryz.prog true ubvw_ := enk ubme_
noncomputable def uu7_ : Code := u5_ Tryz.f155
theorem ubjb_ : CutOK Tryz.prog true Tryz.f155.ntmps uxv_ (sub uu7_ [1, 0, 1, 0]) :=
 lok (body := sub uu7_ [1, 0, 1, 0, 0]) (n := 1) (l := []) u6h_ trivial
theorem ubtc_ : uo_ Tryz.prog 155 ∧ FunOK Tryz.prog 155 ubdi_ :=
 fnk (c := uu7_) (l := [(uxv_, sub uu7_ [1, 0, 1, 0])]) u6h_ Tryz.func155 ⟨⟨by kernel_rfl, ubjb_⟩, trivial⟩
noncomputable def u05_ : FSpec := ⟨[.val .str], [.val .bool], upu_, true⟩
noncomputable def u06_ : List (Nat × FSpec) := [(240, u26_)]
theorem ubbk_ : FsOK Tryz.prog u06_ := ⟨ubgm_, trivial⟩
noncomputable def uo5_ : CSpec := ⟨⟨[0, 5, 6], [.val .str, .val (.int .i64), .val (.int .i64)]⟩, [((.exit 0), ⟨[], []⟩), (.ret, ⟨[2], [.val .bool]⟩)], ([2, 3] ++ seg 6 11), uqr_, []⟩
noncomputable def ubmf_ : Env := mkE u06_ [(0, uo5_)] [] true
theorem uwi_ : EnvOK Tryz.prog true ubmf_ := enk ubbk_
noncomputable def ul8_ : Code := u5_ Tryz.f247
theorem u80_ : CutOK Tryz.prog true Tryz.f247.ntmps uo5_ (sub ul8_ [1, 0, 1, 0]) :=
 lok (body := sub ul8_ [1, 0, 1, 0, 0]) (n := 1) (l := []) uwi_ trivial
theorem ubjc_ : uo_ Tryz.prog 247 ∧ FunOK Tryz.prog 247 u05_ :=
 fnk (c := ul8_) (l := [(uo5_, sub ul8_ [1, 0, 1, 0])]) uwi_ Tryz.func247 ⟨⟨by kernel_rfl, u80_⟩, trivial⟩
noncomputable def uwj_ : FSpec := ⟨[.val (.slice ZZ8)], [.val (.int .i64)], ulv_, true⟩
noncomputable def uwk_ : List (Nat × FSpec) := [(247, u05_)]
theorem u7c_ : FsOK Tryz.prog uwk_ := ⟨ubjc_, trivial⟩
noncomputable def ul9_ : CSpec := ⟨⟨[0, 5, 6, 7], [.val (.slice ZZ8), .val (.slice ZZ8), .val (.int .i64), .val (.int .i64)]⟩, [((.exit 0), ⟨[], []⟩), (.ret, ⟨[2], [.val (.int .i64)]⟩)], ([2, 3, 4] ++ seg 7 29), unj_, []⟩
noncomputable def ubgu_ : Env := mkE uwk_ [(0, ul9_)] [] true
theorem uti_ : EnvOK Tryz.prog true ubgu_ := enk u7c_
noncomputable def ui9_ : Code := u5_ Tryz.f158
theorem u4m_ : CutOK Tryz.prog true Tryz.f158.ntmps ul9_ (sub ui9_ [1, 0, 1, 0]) :=
 lok (body := sub ui9_ [1, 0, 1, 0, 0]) (n := 1) (l := []) uti_ trivial
theorem uben_ : uo_ Tryz.prog 158 ∧ FunOK Tryz.prog 158 uwj_ :=
 fnk (c := ui9_) (l := [(ul9_, sub ui9_ [1, 0, 1, 0])]) uti_ Tryz.func158 ⟨⟨by kernel_rfl, u4m_⟩, trivial⟩
noncomputable def ublj_ : FSpec := ⟨[.val .str], [.val .bool], u2q_, true⟩
noncomputable def ublk_ : List (Nat × FSpec) := []
theorem ubq8_ : FsOK Tryz.prog ublk_ := trivial
noncomputable def u29_ : CSpec := ⟨⟨[0, 5, 6], [.val .str, .val (.int .i64), .val (.int .i64)]⟩, [((.exit 0), ⟨[], []⟩), (.ret, ⟨[2], [.val .bool]⟩)], ([2, 3] ++ seg 6 14), u69_, []⟩
noncomputable def ubzu_ : Env := mkE ublk_ [(0, u29_)] [] true
theorem ubdk_ : EnvOK Tryz.prog true ubzu_ := enk ubq8_
noncomputable def u15_ : Code := u5_ Tryz.f159
theorem ubot_ : CutOK Tryz.prog true Tryz.f159.ntmps u29_ (sub u15_ [1, 0, 1, 0]) :=
 lok (body := sub u15_ [1, 0, 1, 0, 0]) (n := 1) (l := []) ubdk_ trivial
theorem ubxo_ : uo_ Tryz.prog 159 ∧ FunOK Tryz.prog 159 ublj_ :=
 fnk (c := u15_) (l := [(u29_, sub u15_ [1, 0, 1, 0])]) ubdk_ Tryz.func159 ⟨⟨by kernel_rfl, ubot_⟩, trivial⟩
noncomputable def ubgv_ : FSpec := ⟨[.val (.agg ZZ11)], [.val (.int .i64)], ubf3_, true⟩
noncomputable def ubs1_ : List (Nat × FSpec) := [(153, ubmd_), (154, ubvs_), (155, ubdi_), (156, u28_), (157, uf8_), (158, uwj_), (159, ublj_)]
theorem ubvx_ : FsOK Tryz.prog ubs1_ := ⟨ubvr_, ub3a_, ubtc_, ubgt_, uhr_, uben_, ubxo_, trivial⟩
noncomputable def ubbl_ : CSpec := ⟨⟨[75, 76, 77], [.own 9 .str false, .val (.int .i64), .val (.int .i64)]⟩, [((.exit 1), ⟨[], []⟩), (.ret, ⟨[2], [.val (.int .i64)]⟩)], [2, 7, 77, 78, 79, 80, 81, 82, 83], ubf2_, []⟩
noncomputable def u7d_ : CSpec := ⟨⟨[85, 86, 87], [.val (.slice ZZ8), .val (.int .i64), .val (.int .i64)]⟩, [((.exit 3), ⟨[], []⟩), (.ret, ⟨[2], [.val (.int .i64)]⟩)], ([2, 9] ++ seg 87 8), ubaz_, []⟩
noncomputable def ub3b_ : Env := mkE ubs1_ [(7, ubbl_), (10, u7d_)] [] true
theorem u7e_ : EnvOK Tryz.prog true ub3b_ := enk ubvx_
noncomputable def us3_ : Code := u5_ Tryz.f89
theorem ubtd_ : CutOK Tryz.prog true Tryz.f89.ntmps ubbl_ (sub us3_ [1, 1, 1, 1, 1, 0, 1, 0]) :=
 lok (body := sub us3_ [1, 1, 1, 1, 1, 0, 1, 0, 0]) (n := 8) (l := []) u7e_ trivial
theorem ubq9_ : CutOK Tryz.prog true Tryz.f89.ntmps u7d_ (sub us3_ [1, 1, 1, 1, 1, 1, 0, 1, 0]) :=
 lok (body := sub us3_ [1, 1, 1, 1, 1, 1, 0, 1, 0, 0]) (n := 11) (l := []) u7e_ trivial
theorem ubs2_ : uo_ Tryz.prog 89 ∧ FunOK Tryz.prog 89 ubgv_ :=
 fnk (c := us3_) (l := [(ubbl_, sub us3_ [1, 1, 1, 1, 1, 0, 1, 0]), (u7d_, sub us3_ [1, 1, 1, 1, 1, 1, 0, 1, 0])]) u7e_ Tryz.func89 ⟨⟨by kernel_rfl, ubtd_⟩, ⟨by kernel_rfl, ubq9_⟩, trivial⟩
noncomputable def ubou_ : FSpec := ⟨[.val (.int .u8)], [.val .bool], u8q_, true⟩
noncomputable def ubov_ : List (Nat × FSpec) := []
theorem ubte_ : FsOK Tryz.prog ubov_ := trivial
noncomputable def ub1i_ : Env := mkE ubov_ [] [] true
theorem ubvy_ : EnvOK Tryz.prog true ub1i_ := enk ubte_
noncomputable def ub1j_ : Code := u5_ Tryz.f248
theorem ubzv_ : uo_ Tryz.prog 248 ∧ FunOK Tryz.prog 248 ubou_ :=
 fnk (c := ub1j_) (l := []) ubvy_ Tryz.func248 trivial
noncomputable def udu_ : FSpec := ⟨[.bld 5 false, .val (.int .u8)], [.any], ubf_, false⟩
noncomputable def uo6_ : List (Nat × FSpec) := [(261, uhs_)]
theorem uy4_ : FsOK Tryz.prog uo6_ := ⟨uo3_, trivial⟩
noncomputable def u4n_ : Env := mkE uo6_ [] [] false
theorem u0f_ : EnvOK Tryz.prog false u4n_ := enk uy4_
noncomputable def u4o_ : Code := u5_ Tryz.f181
theorem ufl_ : uo_ Tryz.prog 181 ∧ FunOK Tryz.prog 181 udu_ :=
 fnk (c := u4o_) (l := []) u0f_ Tryz.func181 trivial
noncomputable def ubow_ : FSpec := ⟨[.val .str], [.val .str], ubix_, false⟩
noncomputable def ubox_ : List (Nat × FSpec) := [(181, udu_), (182, ubw_), (248, ubou_)]
theorem ubtf_ : FsOK Tryz.prog ubox_ := ⟨ufl_, ucf_, ubzv_, trivial⟩
noncomputable def u7f_ : CSpec := ⟨⟨[0, 3, 6, 7], [.val .str, .bld 5 false, .val (.int .i64), .val (.int .i64)]⟩, [((.exit 0), ⟨[3], [.bld 5 false]⟩)], ([4] ++ seg 7 26), uba0_, []⟩
noncomputable def ub1k_ : Env := mkE ubox_ [(0, u7f_)] [] false
theorem ubgw_ : EnvOK Tryz.prog false ub1k_ := enk ubtf_
noncomputable def u6i_ : Code := u5_ Tryz.f161
theorem ubra_ : CutOK Tryz.prog false Tryz.f161.ntmps u7f_ (sub u6i_ [1, 1, 0, 1, 0]) :=
 lok (body := sub u6i_ [1, 1, 0, 1, 0, 0]) (n := 1) (l := []) ubgw_ trivial
theorem ubzw_ : uo_ Tryz.prog 161 ∧ FunOK Tryz.prog 161 ubow_ :=
 fnk (c := u6i_) (l := [(u7f_, sub u6i_ [1, 1, 0, 1, 0])]) ubgw_ Tryz.func161 ⟨⟨by kernel_rfl, ubra_⟩, trivial⟩
noncomputable def u0g_ : FSpec := ⟨[.val (.agg ZZ11)], [.val (.agg ZZ11)], uui_, false⟩
noncomputable def ubdl_ : List (Nat × FSpec) := [(153, ubmd_), (160, ubge_), (161, ubow_)]
theorem ubmg_ : FsOK Tryz.prog ubdl_ := ⟨ubvr_, ubsw_, ubzw_, trivial⟩
noncomputable def uxw_ : CSpec := ⟨⟨[1, 12], [.box (.val ZZ11), .val .bool]⟩, [(.normal, ⟨[1], [.box (.val ZZ11)]⟩)], [13, 14, 15, 16, 17, 18, 19, 20], ur5_, []⟩
noncomputable def ubvz_ : Env := mkE ubdl_ [(0, uxw_)] [] false
theorem u6j_ : EnvOK Tryz.prog false ubvz_ := enk ubmg_
noncomputable def ukw_ : Code := u5_ Tryz.f90
theorem ubjd_ : CutOK Tryz.prog false Tryz.f90.ntmps uxw_ (sub ukw_ [1, 1, 0, 1]) :=
 brk (c := uqq_ (sub ukw_ [1, 1, 0, 1])) (x := sub ukw_ [1, 1, 0, 1, 0]) (y := sub ukw_ [1, 1, 0, 1, 1]) (n := 0) (lx := []) (ly := []) u6j_ trivial trivial
theorem ubdm_ : uo_ Tryz.prog 90 ∧ FunOK Tryz.prog 90 u0g_ :=
 fnk (c := ukw_) (l := [(uxw_, sub ukw_ [1, 1, 0, 1])]) u6j_ Tryz.func90 ⟨⟨by kernel_rfl, ubjd_⟩, trivial⟩
noncomputable def ubv0_ : FSpec := ⟨[.val .str], [.val (.agg ZZ11), .val (.int .i64), .val (.int .i64)], ubuo_, false⟩
noncomputable def ubv1_ : List (Nat × FSpec) := [(86, u6d_), (87, uju_), (88, ublg_), (89, ubgv_), (90, u0g_)]
theorem ubxp_ : FsOK Tryz.prog ubv1_ := ⟨uboq_, uv8_, ubxi_, ubs2_, ubdm_, trivial⟩
noncomputable def ubgx_ : CSpec := ⟨⟨[2, 6, 7], [.box (.val ZZ11), .box (.pr (.val .str) (.pr (.val .str) (.pr (.val .str) (.pr (.val .str) (.pr (.own 161 ZZ8 true) (.val .str)))))), .val (.int .i64)]⟩, [((.exit 0), ⟨[2, 6], [.box (.val ZZ11), .box (.pr (.val .str) (.pr (.val .str) (.pr (.val .str) (.pr (.val .str) (.pr (.own 161 ZZ8 true) (.val .str))))))]⟩), (.ret, ⟨[2, 3, 4], [.box (.val ZZ11), .val (.int .i64), .val (.int .i64)]⟩)], ([3, 4, 7] ++ seg 31 22), ubl3_, []⟩
noncomputable def ub5n_ : Env := mkE ubv1_ [(2, ubgx_)] [] false
theorem uboy_ : EnvOK Tryz.prog false ub5n_ := enk ubxp_
noncomputable def ubi0_ : Code := u5_ Tryz.f54
theorem ubv2_ : CutOK Tryz.prog false Tryz.f54.ntmps ubgx_ (sub ubi0_ [1, 1, 1, 1, 1, 1, 0, 1, 0]) :=
 lok (body := sub ubi0_ [1, 1, 1, 1, 1, 1, 0, 1, 0, 0]) (n := 3) (l := []) uboy_ trivial
theorem ub3c_ : uo_ Tryz.prog 54 ∧ FunOK Tryz.prog 54 ubv0_ :=
 fnk (c := ubi0_) (l := [(ubgx_, sub ubi0_ [1, 1, 1, 1, 1, 1, 0, 1, 0])]) uboy_ Tryz.func54 ⟨⟨by kernel_rfl, ubv2_⟩, trivial⟩
noncomputable def ub2_ : FSpec := ⟨[.bld 5 false, .val .str], [.val (.int .i64), .any], ubl_, false⟩
noncomputable def um3_ : List (Nat × FSpec) := [(261, uhs_)]
theorem uv9_ : FsOK Tryz.prog um3_ := ⟨uo3_, trivial⟩
noncomputable def u16_ : Env := mkE um3_ [] [] false
theorem uxx_ : EnvOK Tryz.prog false u16_ := enk uv9_
noncomputable def u17_ : Code := u5_ Tryz.f180
theorem ucw_ : uo_ Tryz.prog 180 ∧ FunOK Tryz.prog 180 ub2_ :=
 fnk (c := u17_) (l := []) uxx_ Tryz.func180 trivial
noncomputable def u7g_ : FSpec := ⟨[.val .str], [.val .str], uxf_, false⟩
noncomputable def ubll_ : List (Nat × FSpec) := [(157, uf8_), (180, ub2_), (181, udu_), (182, ubw_), (238, u21_)]
theorem ubrb_ : FsOK Tryz.prog ubll_ := ⟨uhr_, ucw_, ufl_, ucf_, ubgi_, trivial⟩
noncomputable def u3a_ : CSpec := ⟨⟨[0, 3, 7, 8], [.val .str, .bld 5 false, .val (.int .i64), .val (.int .i64)]⟩, [((.exit 0), ⟨[3], [.bld 5 false]⟩)], ([4, 5] ++ seg 8 39), u7a_, []⟩
noncomputable def ubzx_ : Env := mkE ubll_ [(0, u3a_)] [] false
theorem ubdn_ : EnvOK Tryz.prog false ubzx_ := enk ubrb_
noncomputable def u18_ : Code := u5_ Tryz.f163
theorem uboz_ : CutOK Tryz.prog false Tryz.f163.ntmps u3a_ (sub u18_ [1, 1, 0, 1, 0]) :=
 lok (body := sub u18_ [1, 1, 0, 1, 0, 0]) (n := 1) (l := []) ubdn_ trivial
theorem ublm_ : uo_ Tryz.prog 163 ∧ FunOK Tryz.prog 163 u7g_ :=
 fnk (c := u18_) (l := [(u3a_, sub u18_ [1, 1, 0, 1, 0])]) ubdn_ Tryz.func163 ⟨⟨by kernel_rfl, uboz_⟩, trivial⟩
noncomputable def ubv3_ : FSpec := ⟨[.val .str], [.val .str], ubup_, false⟩
noncomputable def ubv4_ : List (Nat × FSpec) := [(100, uni_), (156, u28_), (163, u7g_)]
theorem ubxq_ : FsOK Tryz.prog ubv4_ := ⟨urq_, ubgt_, ublm_, trivial⟩
noncomputable def ubgy_ : CSpec := ⟨⟨[3, 7, 8, 9], [.own 9 .str false, .val (.slice .str), .val (.int .i64), .val (.int .i64)]⟩, [((.exit 0), ⟨[3], [.own 9 .str false]⟩)], ([3, 5] ++ seg 9 10), ubl4_, []⟩
noncomputable def ub5o_ : Env := mkE ubv4_ [(0, ubgy_)] [] false
theorem ubo0_ : EnvOK Tryz.prog false ub5o_ := enk ubxq_
noncomputable def ubi1_ : Code := u5_ Tryz.f162
theorem ubv5_ : CutOK Tryz.prog false Tryz.f162.ntmps ubgy_ (sub ubi1_ [1, 1, 0, 1, 0]) :=
 lok (body := sub ubi1_ [1, 1, 0, 1, 0, 0]) (n := 1) (l := []) ubo0_ trivial
theorem ub3d_ : uo_ Tryz.prog 162 ∧ FunOK Tryz.prog 162 ubv3_ :=
 fnk (c := ubi1_) (l := [(ubgy_, sub ubi1_ [1, 1, 0, 1, 0])]) ubo0_ Tryz.func162 ⟨⟨by kernel_rfl, ubv5_⟩, trivial⟩
noncomputable def ubln_ : FSpec := ⟨[.val (.agg ZZ11)], [.val .str], uba1_, false⟩
noncomputable def ublo_ : List (Nat × FSpec) := [(162, ubv3_), (163, u7g_)]
theorem ubrc_ : FsOK Tryz.prog ublo_ := ⟨ub3d_, ublm_, trivial⟩
noncomputable def ubzy_ : Env := mkE ublo_ [] [] false
theorem ubtg_ : EnvOK Tryz.prog false ubzy_ := enk ubrc_
noncomputable def ubzz_ : Code := u5_ Tryz.f91
theorem ubxr_ : uo_ Tryz.prog 91 ∧ FunOK Tryz.prog 91 ubln_ :=
 fnk (c := ubzz_) (l := []) ubtg_ Tryz.func91 trivial
noncomputable def ubyn_ : FSpec := ⟨[.val (.agg ZZ11)], [.val .str, .val (.int .i64)], ubzn_, false⟩
noncomputable def ubyo_ : List (Nat × FSpec) := [(89, ubgv_), (90, u0g_), (91, ubln_)]
theorem ubz0_ : FsOK Tryz.prog ubyo_ := ⟨ubs2_, ubdm_, ubxr_, trivial⟩
noncomputable def ub7q_ : Env := mkE ubyo_ [] [] false
theorem ub1l_ : EnvOK Tryz.prog false ub7q_ := enk ubz0_
noncomputable def ub7r_ : Code := u5_ Tryz.f55
theorem ub5p_ : uo_ Tryz.prog 55 ∧ FunOK Tryz.prog 55 ubyn_ :=
 fnk (c := ub7r_) (l := []) ub1l_ Tryz.func55 trivial
noncomputable def ubdo_ : FSpec := ⟨[.val .str], [.val .bool], u11_, false⟩
noncomputable def ubdp_ : List (Nat × FSpec) := [(54, ubv0_), (55, ubyn_)]
theorem ubmh_ : FsOK Tryz.prog ubdp_ := ⟨ub3c_, ub5p_, trivial⟩
noncomputable def ubv6_ : Env := mkE ubdp_ [] [] false
theorem ubo1_ : EnvOK Tryz.prog false ubv6_ := enk ubmh_
noncomputable def ubv7_ : Code := u5_ Tryz.f20
theorem ubth_ : uo_ Tryz.prog 20 ∧ FunOK Tryz.prog 20 ubdo_ :=
 fnk (c := ubv7_) (l := []) ubo1_ Tryz.func20 trivial
noncomputable def udk_ : FSpec := ⟨[.val .str, .val (.int .i64), .hof false (.int .u8) .bool], [.val (.int .i64)], uda_, false⟩
noncomputable def ubo2_ : List (Nat × FSpec) := []
theorem ubti_ : FsOK Tryz.prog ubo2_ := trivial
noncomputable def u7h_ : CSpec := ⟨⟨[0, 1, 2, 7], [.val .str, .val (.int .i64), .hof false (.int .u8) .bool, .val (.int .i64)]⟩, [((.exit 0), ⟨[7], [.val (.int .i64)]⟩)], (seg 7 18), uba2_, []⟩
noncomputable def ub1m_ : Env := mkE ubo2_ [(0, u7h_)] [] false
theorem ubgz_ : EnvOK Tryz.prog false ub1m_ := enk ubti_
noncomputable def u6k_ : Code := u5_ Tryz.f164
theorem ubrd_ : CutOK Tryz.prog false Tryz.f164.ntmps u7h_ (sub u6k_ [1, 1, 0, 0]) :=
 lok (body := sub u6k_ [1, 1, 0, 0, 0]) (n := 1) (l := []) ubgz_ trivial
theorem ud8_ : uo_ Tryz.prog 164 ∧ FunOK Tryz.prog 164 udk_ :=
 fnk (c := u6k_) (l := [(u7h_, sub u6k_ [1, 1, 0, 0])]) ubgz_ Tryz.func164 ⟨⟨by kernel_rfl, ubrd_⟩, trivial⟩
noncomputable def uba_ : FSpec := ⟨[.val (.int .u8)], [.val .bool], u6_, true⟩
noncomputable def u81_ : List (Nat × FSpec) := []
theorem ubje_ : FsOK Tryz.prog u81_ := trivial
noncomputable def ubtj_ : Env := mkE u81_ [] [] true
theorem ubmi_ : EnvOK Tryz.prog true ubtj_ := enk ubje_
noncomputable def ubtk_ : Code := u5_ Tryz.f165
theorem ubd_ : uo_ Tryz.prog 165 ∧ FunOK Tryz.prog 165 uba_ :=
 fnk (c := ubtk_) (l := []) ubmi_ Tryz.func165 trivial
noncomputable def ucc_ : FSpec := ⟨[.val .str], [.val (.int .i64), .val .bool], ucr_, false⟩
noncomputable def ubdq_ : List (Nat × FSpec) := [(164, udk_), (165, uba_), (254, uble_)]
theorem ubmj_ : FsOK Tryz.prog ubdq_ := ⟨ud8_, ubd_, strconv_Atoi_ok, trivial⟩
noncomputable def ubv8_ : Env := mkE ubdq_ [] [] false
theorem ubo3_ : EnvOK Tryz.prog false ubv8_ := enk ubmj_
noncomputable def ubv9_ : Code := u5_ Tryz.f174
theorem ucx_ : uo_ Tryz.prog 174 ∧ FunOK Tryz.prog 174 ucc_ :=
 fnk (c := ubv9_) (l := []) ubo3_ Tryz.func174 trivial
noncomputable def ugm_ : FSpec := ⟨[.val .str], [.val (.int .i64), .val .bool], ufi_, false⟩
noncomputable def uy5_ : List (Nat × FSpec) := [(174, ucc_)]
theorem u82_ : FsOK Tryz.prog uy5_ := ⟨ucx_, trivial⟩
noncomputable def ubjf_ : Env := mkE uy5_ [] [] false
theorem ubbm_ : EnvOK Tryz.prog false ubjf_ := enk u82_
noncomputable def ubjg_ : Code := u5_ Tryz.f166
theorem uja_ : uo_ Tryz.prog 166 ∧ FunOK Tryz.prog 166 ugm_ :=
 fnk (c := ubjg_) (l := []) ubbm_ Tryz.func166 trivial
noncomputable def ufm_ : FSpec := ⟨[.val (.int .u8)], [.val .bool], ufj_, true⟩
noncomputable def u6l_ : List (Nat × FSpec) := []
theorem ubg0_ : FsOK Tryz.prog u6l_ := trivial
noncomputable def ubre_ : Env := mkE u6l_ [] [] true
theorem ubjh_ : EnvOK Tryz.prog true ubre_ := enk ubg0_
noncomputable def ubrf_ : Code := u5_ Tryz.f170
theorem ug4_ : uo_ Tryz.prog 170 ∧ FunOK Tryz.prog 170 ufm_ :=
 fnk (c := ubrf_) (l := []) ubjh_ Tryz.func170 trivial
noncomputable def utj_ : FSpec := ⟨[.val (.int .u8)], [.val .bool], uin_, true⟩
noncomputable def utk_ : List (Nat × FSpec) := [(165, uba_), (170, ufm_)]
theorem u3b_ : FsOK Tryz.prog utk_ := ⟨ubd_, ug4_, trivial⟩
noncomputable def ubbn_ : Env := mkE utk_ [] [] true
theorem u4p_ : EnvOK Tryz.prog true ubbn_ := enk u3b_
noncomputable def ubbo_ : Code := u5_ Tryz.f312
theorem u83_ : uo_ Tryz.prog 312 ∧ FunOK Tryz.prog 312 utj_ :=
 fnk (c := ubbo_) (l := []) u4p_ Tryz.func312 trivial
noncomputable def uo7_ : FSpec := ⟨[.val .str], [.val (.slice .str), .val .bool], uio_, false⟩
noncomputable def uy6_ : List (Nat × FSpec) := [(164, udk_), (245, u2y_), (312, utj_)]
theorem u84_ : FsOK Tryz.prog uy6_ := ⟨ud8_, ubga_, u83_, trivial⟩
noncomputable def uno_ : CSpec := ⟨⟨[9, 10, 11], [.val (.slice .str), .val (.int .i64), .val (.int .i64)]⟩, [((.exit 0), ⟨[], []⟩), (.ret, ⟨[2, 3], [.val (.slice .str), .val .bool]⟩)], ([2, 3, 6] ++ seg 11 14), uos_, []⟩
noncomputable def ubji_ : Env := mkE uy6_ [(0, uno_)] [] false
theorem uu8_ : EnvOK Tryz.prog false ubji_ := enk u84_
noncomputable def uj8_ : Code := u5_ Tryz.f249
theorem u7i_ : CutOK Tryz.prog false Tryz.f249.ntmps uno_ (sub uj8_ [1, 1, 0, 1, 0]) :=
 lok (body := sub uj8_ [1, 1, 0, 1, 0, 0]) (n := 1) (l := []) uu8_ trivial
theorem uy7_ : uo_ Tryz.prog 249 ∧ FunOK Tryz.prog 249 uo7_ :=
 fnk (c := uj8_) (l := [(uno_, sub uj8_ [1, 1, 0, 1, 0])]) uu8_ Tryz.func249 ⟨⟨by kernel_rfl, u7i_⟩, trivial⟩
noncomputable def u6m_ : FSpec := ⟨[.val .str], [.val (.slice .str), .val .bool], uuk_, false⟩
noncomputable def u6n_ : List (Nat × FSpec) := [(164, udk_), (165, uba_), (166, ugm_), (249, uo7_)]
theorem ubg1_ : FsOK Tryz.prog u6n_ := ⟨ud8_, ubd_, uja_, uy7_, trivial⟩
noncomputable def us4_ : CSpec := ⟨⟨[15, 16, 17], [.val (.slice .str), .val (.int .i64), .val (.int .i64)]⟩, [((.exit 0), ⟨[], []⟩), (.ret, ⟨[2, 3], [.val (.slice .str), .val .bool]⟩)], ([2, 3, 7, 8, 9] ++ seg 17 17), uuj_, []⟩
noncomputable def ubrg_ : Env := mkE u6n_ [(0, us4_)] [] false
theorem u07_ : EnvOK Tryz.prog false ubrg_ := enk ubg1_
noncomputable def up7_ : Code := u5_ Tryz.f250
theorem ubeo_ : CutOK Tryz.prog false Tryz.f250.ntmps us4_ (sub up7_ [1, 1, 0, 1, 0]) :=
 lok (body := sub up7_ [1, 1, 0, 1, 0, 0]) (n := 1) (l := []) u07_ trivial
theorem ubo4_ : uo_ Tryz.prog 250 ∧ FunOK Tryz.prog 250 u6m_ :=
 fnk (c := up7_) (l := [(us4_, sub up7_ [1, 1, 0, 1, 0])]) u07_ Tryz.func250 ⟨⟨by kernel_rfl, ubeo_⟩, trivial⟩
noncomputable def ublp_ : FSpec := ⟨[.val .str], [.val (.slice .str), .val .bool], uba3_, false⟩
noncomputable def ublq_ : List (Nat × FSpec) := [(168, uba8_), (249, uo7_), (250, u6m_)]
theorem ubrh_ : FsOK Tryz.prog ublq_ := ⟨uboi_, uy7_, ubo4_, trivial⟩
noncomputable def ubz1_ : Env := mkE ublq_ [] [] false
theorem ubtl_ : EnvOK Tryz.prog false ubz1_ := enk ubrh_
noncomputable def ubz2_ : Code := u5_ Tryz.f167
theorem ubxs_ : uo_ Tryz.prog 167 ∧ FunOK Tryz.prog 167 ublp_ :=
 fnk (c := ubz2_) (l := []) ubtl_ Tryz.func167 trivial
noncomputable def u08_ : FSpec := ⟨[.val .str], [.val ZZ2, .val .bool], upv_, false⟩
noncomputable def u09_ : List (Nat × FSpec) := [(164, udk_), (165, uba_), (166, ugm_), (167, ublp_)]
theorem ubbp_ : FsOK Tryz.prog u09_ := ⟨ud8_, ubd_, uja_, ubxs_, trivial⟩
noncomputable def uo8_ : CSpec := ⟨⟨[0, 5, 16], [.val .str, .val (.int .i64), .val .bool]⟩, [(.normal, ⟨[5], [.val (.int .i64)]⟩), (.ret, ⟨[2, 3], [.val ZZ2, .val .bool]⟩)], ([2, 3, 5] ++ seg 17 12), ujz_, []⟩
noncomputable def uo9_ : CSpec := ⟨⟨[0, 4, 5, 12], [.val .str, .box (.pr (.val (.arr 3 (.int .i64))) (.own 9 .str false)), .val (.int .i64), .val (.int .i64)]⟩, [((.exit 0), ⟨[4, 5], [.box (.pr (.val (.arr 3 (.int .i64))) (.own 9 .str false)), .val (.int .i64)]⟩), (.ret, ⟨[2, 3], [.val ZZ2, .val .bool]⟩)], ([2, 3, 5, 6, 7, 8, 9] ++ seg 12 40), uqs_, []⟩
noncomputable def ubmk_ : Env := mkE u09_ [(2, uo8_), (0, uo9_)] [] false
theorem unp_ : EnvOK Tryz.prog false ubmk_ := enk ubbp_
noncomputable def ucu_ : Code := u5_ Tryz.f92
theorem u85_ : CutOK Tryz.prog false Tryz.f92.ntmps uo8_ (sub ucu_ [1, 1, 1, 0, 1, 0, 0, 1, 1, 0, 0, 1, 0, 1]) :=
 brk (c := uqq_ (sub ucu_ [1, 1, 1, 0, 1, 0, 0, 1, 1, 0, 0, 1, 0, 1])) (x := sub ucu_ [1, 1, 1, 0, 1, 0, 0, 1, 1, 0, 0, 1, 0, 1, 0]) (y := sub ucu_ [1, 1, 1, 0, 1, 0, 0, 1, 1, 0, 0, 1, 0, 1, 1]) (n := 2) (lx := []) (ly := []) unp_ trivial trivial
theorem u86_ : CutOK Tryz.prog false Tryz.f92.ntmps uo9_ (sub ucu_ [1, 1, 1, 0, 1, 0]) :=
 lok (body := sub ucu_ [1, 1, 1, 0, 1, 0, 0]) (n := 1) (l := [(uo8_, sub ucu_ [1, 1, 1, 0, 1, 0, 0, 1, 1, 0, 0, 1, 0, 1])]) unp_ ⟨⟨by kernel_rfl, u85_⟩, trivial⟩
theorem ubjj_ : uo_ Tryz.prog 92 ∧ FunOK Tryz.prog 92 u08_ :=
 fnk (c := ucu_) (l := [(uo9_, sub ucu_ [1, 1, 1, 0, 1, 0])]) unp_ Tryz.func92 ⟨⟨by kernel_rfl, u86_⟩, trivial⟩
noncomputable def utl_ : FSpec := ⟨[.val (.int .u8)], [.val .bool], uip_, true⟩
noncomputable def utm_ : List (Nat × FSpec) := [(157, uf8_), (165, uba_), (170, ufm_)]
theorem u3c_ : FsOK Tryz.prog utm_ := ⟨uhr_, ubd_, ug4_, trivial⟩
noncomputable def ubbq_ : Env := mkE utm_ [] [] true
theorem u4q_ : EnvOK Tryz.prog true ubbq_ := enk u3c_
noncomputable def ubbr_ : Code := u5_ Tryz.f169
theorem u87_ : uo_ Tryz.prog 169 ∧ FunOK Tryz.prog 169 utl_ :=
 fnk (c := ubbr_) (l := []) u4q_ Tryz.func169 trivial
noncomputable def u3d_ : FSpec := ⟨[.val .str], [.val .bool], ur6_, false⟩
noncomputable def u3e_ : List (Nat × FSpec) := [(164, udk_), (165, uba_)]
theorem ubep_ : FsOK Tryz.prog u3e_ := ⟨ud8_, ubd_, trivial⟩
noncomputable def uq4_ : CSpec := ⟨⟨[0, 3], [.val .str, .val (.int .i64)]⟩, [((.exit 0), ⟨[], []⟩), (.ret, ⟨[2], [.val .bool]⟩)], (seg 2 16), usm_, []⟩
noncomputable def ubo5_ : Env := mkE u3e_ [(0, uq4_)] [] false
theorem uy8_ : EnvOK Tryz.prog false ubo5_ := enk ubep_
noncomputable def uoh_ : Code := u5_ Tryz.f171
theorem ubbs_ : CutOK Tryz.prog false Tryz.f171.ntmps uq4_ (sub uoh_ [1, 0, 1, 0]) :=
 lok (body := sub uoh_ [1, 0, 1, 0, 0]) (n := 1) (l := []) uy8_ trivial
theorem ubml_ : uo_ Tryz.prog 171 ∧ FunOK Tryz.prog 171 u3d_ :=
 fnk (c := uoh_) (l := [(uq4_, sub uoh_ [1, 0, 1, 0])]) uy8_ Tryz.func171 ⟨⟨by kernel_rfl, ubbs_⟩, trivial⟩
noncomputable def uy9_ : FSpec := ⟨[.val .str], [.val ZZ2, .val .bool], uob_, false⟩
noncomputable def uza_ : List (Nat × FSpec) := [(157, uf8_), (164, udk_), (165, uba_), (166, ugm_), (168, uba8_), (169, utl_), (171, u3d_), (172, uux_)]
theorem u88_ : FsOK Tryz.prog uza_ := ⟨uhr_, ud8_, ubd_, uja_, uboi_, u87_, ubml_, uba7_, trivial⟩
noncomputable def unq_ : CSpec := ⟨⟨[0, 4, 5, 6, 18], [.val .str, .box (.val ZZ16), .val .str, .val .str, .val .bool]⟩, [(.normal, ⟨[0, 4], [.val .str, .box (.val ZZ16)]⟩), (.ret, ⟨[2, 3], [.val ZZ2, .val .bool]⟩)], ([0, 2, 3, 8, 9] ++ seg 19 10), uiq_, []⟩
noncomputable def ubjk_ : Env := mkE uza_ [(0, unq_)] [] false
theorem uu9_ : EnvOK Tryz.prog false ubjk_ := enk u88_
noncomputable def ufq_ : Code := u5_ Tryz.f93
theorem u7j_ : CutOK Tryz.prog false Tryz.f93.ntmps unq_ (sub ufq_ [1, 1, 0, 1, 1]) :=
 brk (c := uqq_ (sub ufq_ [1, 1, 0, 1, 1])) (x := sub ufq_ [1, 1, 0, 1, 1, 0]) (y := sub ufq_ [1, 1, 0, 1, 1, 1]) (n := 0) (lx := []) (ly := []) uu9_ trivial trivial
theorem ubg2_ : uo_ Tryz.prog 93 ∧ FunOK Tryz.prog 93 uy9_ :=
 fnk (c := ufq_) (l := [(unq_, sub ufq_ [1, 1, 0, 1, 1])]) uu9_ Tryz.func93 ⟨⟨by kernel_rfl, u7j_⟩, trivial⟩
noncomputable def u3f_ : FSpec := ⟨[.val .str], [.val ZZ21, .val .str, .val .bool], ur7_, false⟩
noncomputable def u3g_ : List (Nat × FSpec) := [(164, udk_), (165, uba_), (174, ucc_)]
theorem ubeq_ : FsOK Tryz.prog u3g_ := ⟨ud8_, ubd_, ucx_, trivial⟩
noncomputable def uq5_ : CSpec := ⟨⟨[0, 5], [.val .str, .own 3 (.int .i64) false]⟩, [(.ret, ⟨[2, 3, 4], [.val ZZ21, .val .str, .val .bool]⟩)], ([0] ++ seg 2 43), usn_, []⟩
noncomputable def ubo6_ : Env := mkE u3g_ [(0, uq5_)] [] false
theorem uzb_ : EnvOK Tryz.prog false ubo6_ := enk ubeq_
noncomputable def uoi_ : Code := u5_ Tryz.f175
theorem ubbt_ : CutOK Tryz.prog false Tryz.f175.ntmps uq5_ (sub uoi_ [1, 1, 0]) :=
 lok (body := sub uoi_ [1, 1, 0, 0]) (n := 1) (l := []) uzb_ trivial
theorem ubmm_ : uo_ Tryz.prog 175 ∧ FunOK Tryz.prog 175 u3f_ :=
 fnk (c := uoi_) (l := [(uq5_, sub uoi_ [1, 1, 0])]) uzb_ Tryz.func175 ⟨⟨by kernel_rfl, ubbt_⟩, trivial⟩
noncomputable def ubdr_ : FSpec := ⟨[.val (.int .u8)], [.val .bool], uba4_, true⟩
noncomputable def ubds_ : List (Nat × FSpec) := []
theorem ubmn_ : FsOK Tryz.prog ubds_ := trivial
noncomputable def ubwa_ : Env := mkE ubds_ [] [] true
theorem ubo7_ : EnvOK Tryz.prog true ubwa_ := enk ubmn_
noncomputable def ubwb_ : Code := u5_ Tryz.f317
theorem ubtm_ : uo_ Tryz.prog 317 ∧ FunOK Tryz.prog 317 ubdr_ :=
 fnk (c := ubwb_) (l := []) ubo7_ Tryz.func317 trivial
noncomputable def ubdt_ : FSpec := ⟨[.val .str, .hof false (.int .u8) .bool], [.val (.int .i64)], uul_, false⟩
noncomputable def ubdu_ : List (Nat × FSpec) := [(317, ubdr_)]
theorem ubmo_ : FsOK Tryz.prog ubdu_ := ⟨ubtm_, trivial⟩
noncomputable def ubwc_ : Env := mkE ubdu_ [] [] false
theorem ubo8_ : EnvOK Tryz.prog false ubwc_ := enk ubmo_
noncomputable def ubwd_ : Code := u5_ Tryz.f255
theorem ubtn_ : uo_ Tryz.prog 255 ∧ FunOK Tryz.prog 255 ubdt_ :=
 fnk (c := ubwd_) (l := []) ubo8_ Tryz.func255 trivial
noncomputable def u3h_ : FSpec := ⟨[.val .str], [.val .str, .val (.int .i64), .val (.int .i64)], ur8_, true⟩
noncomputable def u3i_ : List (Nat × FSpec) := [(294, u2w_)]
theorem uber_ : FsOK Tryz.prog u3i_ := ⟨ubl5_, trivial⟩
noncomputable def uq6_ : CSpec := ⟨⟨[0, 2, 7, 8, 9], [.val .str, .val .str, .own 9 .str false, .val (.int .i64), .val (.int .i64)]⟩, [((.exit 0), ⟨[2], [.val .str]⟩)], ([2, 6] ++ seg 9 9), uso_, []⟩
noncomputable def uq7_ : CSpec := ⟨⟨[18, 21], [.val .str, .val .bool]⟩, [(.normal, ⟨[21], [.val .bool]⟩)], [21, 23], ulw_, []⟩
noncomputable def uq8_ : CSpec := ⟨⟨[18, 25], [.val .str, .val .bool]⟩, [(.normal, ⟨[25], [.val .bool]⟩)], [25, 27], ulx_, []⟩
noncomputable def uq9_ : CSpec := ⟨⟨[18, 29], [.val .str, .val .bool]⟩, [(.normal, ⟨[29], [.val .bool]⟩)], [29, 31, 32, 33], uly_, []⟩
noncomputable def ubo9_ : Env := mkE u3i_ [(0, uq6_), (4, uq7_), (6, uq8_), (8, uq9_)] [] true
theorem ugn_ : EnvOK Tryz.prog true ubo9_ := enk uber_
noncomputable def u7_ : Code := u5_ Tryz.f256
theorem ubbu_ : CutOK Tryz.prog true Tryz.f256.ntmps uq6_ (sub u7_ [1, 0, 1, 0]) :=
 lok (body := sub u7_ [1, 0, 1, 0, 0]) (n := 1) (l := []) ugn_ trivial
theorem ubbv_ : CutOK Tryz.prog true Tryz.f256.ntmps uq7_ (sub u7_ [1, 1, 0, 1, 0, 1, 1, 0, 1]) :=
 brk (c := uqq_ (sub u7_ [1, 1, 0, 1, 0, 1, 1, 0, 1])) (x := sub u7_ [1, 1, 0, 1, 0, 1, 1, 0, 1, 0]) (y := sub u7_ [1, 1, 0, 1, 0, 1, 1, 0, 1, 1]) (n := 4) (lx := []) (ly := []) ugn_ trivial trivial
theorem ubbw_ : CutOK Tryz.prog true Tryz.f256.ntmps uq8_ (sub u7_ [1, 1, 0, 1, 0, 1, 1, 1, 1, 0, 1]) :=
 brk (c := uqq_ (sub u7_ [1, 1, 0, 1, 0, 1, 1, 1, 1, 0, 1])) (x := sub u7_ [1, 1, 0, 1, 0, 1, 1, 1, 1, 0, 1, 0]) (y := sub u7_ [1, 1, 0, 1, 0, 1, 1, 1, 1, 0, 1, 1]) (n := 6) (lx := []) (ly := []) ugn_ trivial trivial
theorem ubbx_ : CutOK Tryz.prog true Tryz.f256.ntmps uq9_ (sub u7_ [1, 1, 0, 1, 0, 1, 1, 1, 1, 1, 1, 0, 1]) :=
 brk (c := uqq_ (sub u7_ [1, 1, 0, 1, 0, 1, 1, 1, 1, 1, 1, 0, 1])) (x := sub u7_ [1, 1, 0, 1, 0, 1, 1, 1, 1, 1, 1, 0, 1, 0]) (y := sub u7_ [1, 1, 0, 1, 0, 1, 1, 1, 1, 1, 1, 0, 1, 1]) (n := 8) (lx := []) (ly := []) ugn_ trivial trivial
theorem ubmp_ : uo_ Tryz.prog 256 ∧ FunOK Tryz.prog 256 u3h_ :=
 fnk (c := u7_) (l := [(uq6_, sub u7_ [1, 0, 1, 0]), (uq7_, sub u7_ [1, 1, 0, 1, 0, 1, 1, 0, 1]), (uq8_, sub u7_ [1, 1, 0, 1, 0, 1, 1, 1, 1, 0, 1]), (uq9_, sub u7_ [1, 1, 0, 1, 0, 1, 1, 1, 1, 1, 1, 0, 1])]) ugn_ Tryz.func256 ⟨⟨by kernel_rfl, ubbu_⟩, ⟨by kernel_rfl, ubbv_⟩, ⟨by kernel_rfl, ubbw_⟩, ⟨by kernel_rfl, ubbx_⟩, trivial⟩
noncomputable def uwl_ : FSpec := ⟨[.box (.val ZZ6), .val .str], [.val .str, .val .bool], ulz_, false⟩
noncomputable def uwm_ : List (Nat × FSpec) := [(164, udk_), (165, uba_), (170, ufm_), (174, ucc_), (255, ubdt_), (256, u3h_)]
theorem u7k_ : FsOK Tryz.prog uwm_ := ⟨ud8_, ubd_, ug4_, ucx_, ubtn_, ubmp_, trivial⟩
noncomputable def uma_ : CSpec := ⟨⟨[7, 11, 12, 49], [.val .str, .val (.int .i64), .val (.int .i64), .val .bool]⟩, [(.normal, ⟨[7, 11], [.val .str, .val (.int .i64)]⟩), (.ret, ⟨[4, 5], [.val .str, .val .bool]⟩)], ([4, 5, 7, 11, 13, 14, 15] ++ seg 50 21), uhu_, []⟩
noncomputable def umb_ : CSpec := ⟨⟨[0, 1, 6], [.box (.val ZZ6), .val .str, .val (.int .i64)]⟩, [(.ret, ⟨[0, 4, 5], [.box (.val ZZ6), .val .str, .val .bool]⟩)], ([1] ++ seg 4 91), unk_, []⟩
noncomputable def ubg3_ : Env := mkE uwm_ [(3, uma_), (0, umb_)] [] false
theorem ukx_ : EnvOK Tryz.prog false ubg3_ := enk u7k_
noncomputable def ub5_ : Code := u5_ Tryz.f176
theorem u4r_ : CutOK Tryz.prog false Tryz.f176.ntmps uma_ (sub ub5_ [1, 1, 0, 0, 0, 1, 1, 1, 1, 1, 1, 0, 1, 1]) :=
 brk (c := uqq_ (sub ub5_ [1, 1, 0, 0, 0, 1, 1, 1, 1, 1, 1, 0, 1, 1])) (x := sub ub5_ [1, 1, 0, 0, 0, 1, 1, 1, 1, 1, 1, 0, 1, 1, 0]) (y := sub ub5_ [1, 1, 0, 0, 0, 1, 1, 1, 1, 1, 1, 0, 1, 1, 1]) (n := 3) (lx := []) (ly := []) ukx_ trivial trivial
theorem u4s_ : CutOK Tryz.prog false Tryz.f176.ntmps umb_ (sub ub5_ [1, 1, 0]) :=
 lok (body := sub ub5_ [1, 1, 0, 0]) (n := 1) (l := [(uma_, sub ub5_ [1, 1, 0, 0, 0, 1, 1, 1, 1, 1, 1, 0, 1, 1])]) ukx_ ⟨⟨by kernel_rfl, u4r_⟩, trivial⟩
theorem ubes_ : uo_ Tryz.prog 176 ∧ FunOK Tryz.prog 176 uwl_ :=
 fnk (c := ub5_) (l := [(umb_, sub ub5_ [1, 1, 0])]) ukx_ Tryz.func176 ⟨⟨by kernel_rfl, u4s_⟩, trivial⟩
noncomputable def u1a_ : FSpec := ⟨[.val (.int .i32)], [.val .bool], uxg_, true⟩
noncomputable def u1b_ : List (Nat × FSpec) := []
theorem ubby_ : FsOK Tryz.prog u1b_ := trivial
noncomputable def ubmq_ : Env := mkE u1b_ [] [] true
theorem ubet_ : EnvOK Tryz.prog true ubmq_ := enk ubby_
noncomputable def ubmr_ : Code := u5_ Tryz.f259
theorem ubjl_ : uo_ Tryz.prog 259 ∧ FunOK Tryz.prog 259 u1a_ :=
 fnk (c := ubmr_) (l := []) ubet_ Tryz.func259 trivial
noncomputable def u1c_ : FSpec := ⟨[.val (.int .u8)], [.val .bool], upw_, true⟩
noncomputable def u1d_ : List (Nat × FSpec) := [(165, uba_), (170, ufm_)]
theorem ubbz_ : FsOK Tryz.prog u1d_ := ⟨ubd_, ug4_, trivial⟩
noncomputable def ubms_ : Env := mkE u1d_ [] [] true
theorem ubeu_ : EnvOK Tryz.prog true ubms_ := enk ubbz_
noncomputable def ubmt_ : Code := u5_ Tryz.f260
theorem ubjm_ : uo_ Tryz.prog 260 ∧ FunOK Tryz.prog 260 u1c_ :=
 fnk (c := ubmt_) (l := []) ubeu_ Tryz.func260 trivial
noncomputable def u89_ : FSpec := ⟨[.val .str], [.val (.slice .str), .val .bool], uyc_, false⟩
noncomputable def u9a_ : List (Nat × FSpec) := [(164, udk_), (165, uba_), (258, u02_), (259, u1a_), (260, u1c_)]
theorem ubjn_ : FsOK Tryz.prog u9a_ := ⟨ud8_, ubd_, ubi5_, ubjl_, ubjm_, trivial⟩
noncomputable def uva_ : CSpec := ⟨⟨[5, 13, 14, 15], [.val (.int .i64), .val (.slice .str), .val (.int .i64), .val (.int .i64)]⟩, [((.exit 0), ⟨[5], [.val (.int .i64)]⟩), (.ret, ⟨[2, 3], [.val (.slice .str), .val .bool]⟩)], ([2, 3, 5, 7, 8] ++ seg 15 26), uxh_, []⟩
noncomputable def ubto_ : Env := mkE u9a_ [(0, uva_)] [] false
theorem u3j_ : EnvOK Tryz.prog false ubto_ := enk ubjn_
noncomputable def usd_ : Code := u5_ Tryz.f178
theorem ubg4_ : CutOK Tryz.prog false Tryz.f178.ntmps uva_ (sub usd_ [1, 1, 1, 0, 1, 0]) :=
 lok (body := sub usd_ [1, 1, 1, 0, 1, 0, 0]) (n := 1) (l := []) u3j_ trivial
theorem ubri_ : uo_ Tryz.prog 178 ∧ FunOK Tryz.prog 178 u89_ :=
 fnk (c := usd_) (l := [(uva_, sub usd_ [1, 1, 1, 0, 1, 0])]) u3j_ Tryz.func178 ⟨⟨by kernel_rfl, ubg4_⟩, trivial⟩
noncomputable def u1e_ : FSpec := ⟨[.val .str], [.val ZZ2, .val .bool], upx_, false⟩
noncomputable def u1f_ : List (Nat × FSpec) := [(164, udk_), (165, uba_), (173, u01_), (174, ucc_), (175, u3f_), (176, uwl_), (177, u2x_), (178, u89_)]
theorem ubb0_ : FsOK Tryz.prog u1f_ := ⟨ud8_, ubd_, ubi4_, ucx_, ubmm_, ubes_, ubl6_, ubri_, trivial⟩
noncomputable def upa_ : CSpec := ⟨⟨[0, 4, 5, 29], [.val .str, .box (.val ZZ6), .val (.int .i64), .val .bool]⟩, [(.normal, ⟨[0, 4], [.val .str, .box (.val ZZ6)]⟩), (.ret, ⟨[2, 3], [.val ZZ2, .val .bool]⟩)], ([0, 2, 3, 6, 7] ++ seg 30 15), uj0_, []⟩
noncomputable def ubmu_ : Env := mkE u1f_ [(0, upa_)] [] false
theorem uwn_ : EnvOK Tryz.prog false ubmu_ := enk ubb0_
noncomputable def uf9_ : Code := u5_ Tryz.f94
theorem u9b_ : CutOK Tryz.prog false Tryz.f94.ntmps upa_ (sub uf9_ [1, 1, 1, 0, 1, 1]) :=
 brk (c := uqq_ (sub uf9_ [1, 1, 1, 0, 1, 1])) (x := sub uf9_ [1, 1, 1, 0, 1, 1, 0]) (y := sub uf9_ [1, 1, 1, 0, 1, 1, 1]) (n := 0) (lx := []) (ly := []) uwn_ trivial trivial
theorem ubjo_ : uo_ Tryz.prog 94 ∧ FunOK Tryz.prog 94 u1e_ :=
 fnk (c := uf9_) (l := [(upa_, sub uf9_ [1, 1, 1, 0, 1, 1])]) uwn_ Tryz.func94 ⟨⟨by kernel_rfl, u9b_⟩, trivial⟩
noncomputable def ubg5_ : FSpec := ⟨[.val .str, .val .bool], [.val .str], u5y_, false⟩
noncomputable def ubg6_ : List (Nat × FSpec) := [(95, uxo_)]
theorem ubpa_ : FsOK Tryz.prog ubg6_ := ⟨u8y_, trivial⟩
noncomputable def ubxt_ : Env := mkE ubg6_ [] [] false
theorem ubrj_ : EnvOK Tryz.prog false ubxt_ := enk ubpa_
noncomputable def ubxu_ : Code := u5_ Tryz.f185
theorem ubwe_ : uo_ Tryz.prog 185 ∧ FunOK Tryz.prog 185 ubg5_ :=
 fnk (c := ubxu_) (l := []) ubrj_ Tryz.func185 trivial
noncomputable def ujb_ : FSpec := ⟨[.val ZZ13], [.val .bool], ugu_, true⟩
noncomputable def uzc_ : List (Nat × FSpec) := []
theorem u9c_ : FsOK Tryz.prog uzc_ := trivial
noncomputable def ubjp_ : Env := mkE uzc_ [] [] true
theorem ubb1_ : EnvOK Tryz.prog true ubjp_ := enk u9c_
noncomputable def ubjq_ : Code := u5_ Tryz.f186
theorem upb_ : uo_ Tryz.prog 186 ∧ FunOK Tryz.prog 186 ujb_ :=
 fnk (c := ubjq_) (l := []) ubb1_ Tryz.func186 trivial
noncomputable def uvb_ : FSpec := ⟨[.val .str], [.val ZZ2, .val .bool], uj1_, false⟩
noncomputable def uvc_ : List (Nat × FSpec) := [(164, udk_), (165, uba_), (170, ufm_), (174, ucc_), (185, ubg5_), (186, ujb_)]
theorem u4t_ : FsOK Tryz.prog uvc_ := ⟨ud8_, ubd_, ug4_, ucx_, ubwe_, upb_, trivial⟩
noncomputable def uky_ : CSpec := ⟨⟨[0, 5, 24], [.val .str, .val (.int .i64), .val .bool]⟩, [(.normal, ⟨[5], [.val (.int .i64)]⟩), (.ret, ⟨[2, 3], [.val ZZ2, .val .bool]⟩)], ([2, 3, 5] ++ seg 25 27), uhe_, []⟩
noncomputable def ukz_ : CSpec := ⟨⟨[0, 4, 5], [.val .str, .box (.own 259 ZZ13 false), .val (.int .i64)]⟩, [((.exit 0), ⟨[4], [.box (.own 259 ZZ13 false)]⟩), (.ret, ⟨[2, 3], [.val ZZ2, .val .bool]⟩)], ([2, 3] ++ seg 5 110), ul0_, []⟩
noncomputable def uk0_ : CSpec := ⟨⟨[4], [.box (.val (.slice ZZ13))]⟩, [((.exit 2), ⟨[4], [.box (.val (.slice ZZ13))]⟩)], (seg 115 23), ul1_, []⟩
noncomputable def ubev_ : Env := mkE uvc_ [(2, uky_), (0, ukz_), (7, uk0_)] [] false
theorem ugj_ : EnvOK Tryz.prog false ubev_ := enk u4t_
noncomputable def ubb_ : Code := u5_ Tryz.f96
theorem u3k_ : CutOK Tryz.prog false Tryz.f96.ntmps uky_ (sub ubb_ [1, 1, 0, 1, 0, 0, 1, 0, 0, 1]) :=
 brk (c := uqq_ (sub ubb_ [1, 1, 0, 1, 0, 0, 1, 0, 0, 1])) (x := sub ubb_ [1, 1, 0, 1, 0, 0, 1, 0, 0, 1, 0]) (y := sub ubb_ [1, 1, 0, 1, 0, 0, 1, 0, 0, 1, 1]) (n := 2) (lx := []) (ly := []) ugj_ trivial trivial
theorem u3l_ : CutOK Tryz.prog false Tryz.f96.ntmps ukz_ (sub ubb_ [1, 1, 0, 1, 0]) :=
 lok (body := sub ubb_ [1, 1, 0, 1, 0, 0]) (n := 1) (l := [(uky_, sub ubb_ [1, 1, 0, 1, 0, 0, 1, 0, 0, 1])]) ugj_ ⟨⟨by kernel_rfl, u3k_⟩, trivial⟩
theorem u3m_ : CutOK Tryz.prog false Tryz.f96.ntmps uk0_ (sub ubb_ [1, 1, 1, 0, 0]) :=
 lok (body := sub ubb_ [1, 1, 1, 0, 0, 0]) (n := 8) (l := []) ugj_ trivial
theorem ubb2_ : uo_ Tryz.prog 96 ∧ FunOK Tryz.prog 96 uvb_ :=
 fnk (c := ubb_) (l := [(ukz_, sub ubb_ [1, 1, 0, 1, 0]), (uk0_, sub ubb_ [1, 1, 1, 0, 0])]) ugj_ Tryz.func96 ⟨⟨by kernel_rfl, u3l_⟩, ⟨by kernel_rfl, u3m_⟩, trivial⟩
noncomputable def u3n_ : FSpec := ⟨[.val .str], [.val ZZ2, .val .bool], ur9_, false⟩
noncomputable def u3o_ : List (Nat × FSpec) := [(166, ugm_)]
theorem ubew_ : FsOK Tryz.prog u3o_ := ⟨uja_, trivial⟩
noncomputable def ubpb_ : Env := mkE u3o_ [] [] false
theorem ubg7_ : EnvOK Tryz.prog false ubpb_ := enk ubew_
noncomputable def ubpc_ : Code := u5_ Tryz.f97
theorem ubmv_ : uo_ Tryz.prog 97 ∧ FunOK Tryz.prog 97 u3n_ :=
 fnk (c := ubpc_) (l := []) ubg7_ Tryz.func97 trivial
noncomputable def uyl_ : FSpec := ⟨[.val (.int .i64), .val .str], [.val ZZ2, .val (.int .i64)], uxi_, false⟩
noncomputable def ublr_ : List (Nat × FSpec) := [(92, u08_), (93, uy9_), (94, u1e_), (95, uxo_), (96, uvb_), (97, u3n_)]
theorem ubrk_ : FsOK Tryz.prog ublr_ := ⟨ubjj_, ubg2_, ubjo_, u8y_, ubb2_, ubmv_, trivial⟩
noncomputable def ubz3_ : Env := mkE ublr_ [] [] false
theorem ubtp_ : EnvOK Tryz.prog false ubz3_ := enk ubrk_
noncomputable def ubz4_ : Code := u5_ Tryz.f56
theorem u7l_ : uo_ Tryz.prog 56 ∧ FunOK Tryz.prog 56 uyl_ :=
 fnk (c := ubz4_) (l := []) ubtp_ Tryz.func56 trivial
noncomputable def upc_ : FSpec := ⟨[.val ZZ21], [.val .str], uir_, false⟩
noncomputable def uzd_ : List (Nat × FSpec) := [(80, udz_), (100, uni_)]
theorem u9d_ : FsOK Tryz.prog uzd_ := ⟨ued_, urq_, trivial⟩
noncomputable def unr_ : CSpec := ⟨⟨[3, 6, 7, 8], [.own 9 .str false, .val ZZ21, .val (.int .i64), .val (.int .i64)]⟩, [((.exit 0), ⟨[3], [.own 9 .str false]⟩)], ([3, 5] ++ seg 8 10), uot_, []⟩
noncomputable def ubjr_ : Env := mkE uzd_ [(0, unr_)] [] false
theorem uvd_ : EnvOK Tryz.prog false ubjr_ := enk u9d_
noncomputable def uj9_ : Code := u5_ Tryz.f381
theorem u7m_ : CutOK Tryz.prog false Tryz.f381.ntmps unr_ (sub uj9_ [1, 1, 0, 1, 0]) :=
 lok (body := sub uj9_ [1, 1, 0, 1, 0, 0]) (n := 1) (l := []) uvd_ trivial
theorem uze_ : uo_ Tryz.prog 381 ∧ FunOK Tryz.prog 381 upc_ :=
 fnk (c := uj9_) (l := [(unr_, sub uj9_ [1, 1, 0, 1, 0])]) uvd_ Tryz.func381 ⟨⟨by kernel_rfl, u7m_⟩, trivial⟩
noncomputable def uns_ : FSpec := ⟨[.val (.agg (.prod (.arr 3 (.int .i64)) (.slice .str)))], [.val .str], uhn_, false⟩
noncomputable def uwo_ : List (Nat × FSpec) := [(100, uni_), (381, upc_)]
theorem u7n_ : FsOK Tryz.prog uwo_ := ⟨urq_, uze_, trivial⟩
noncomputable def ubg8_ : Env := mkE uwo_ [] [] false
theorem u9e_ : EnvOK Tryz.prog false ubg8_ := enk u7n_
noncomputable def ubg9_ : Code := u5_ Tryz.f378
theorem uwp_ : uo_ Tryz.prog 378 ∧ FunOK Tryz.prog 378 uns_ :=
 fnk (c := ubg9_) (l := []) u9e_ Tryz.func378 trivial
noncomputable def uzf_ : FSpec := ⟨[.val .str], [.val .str], uis_, false⟩
noncomputable def uzg_ : List (Nat × FSpec) := [(80, udz_), (164, udk_), (165, uba_), (174, ucc_), (180, ub2_), (181, udu_), (182, ubw_)]
theorem u9f_ : FsOK Tryz.prog uzg_ := ⟨ued_, ud8_, ubd_, ucx_, ucw_, ufl_, ucf_, trivial⟩
noncomputable def unt_ : CSpec := ⟨⟨[0, 3, 4], [.val .str, .bld 5 false, .val (.int .i64)]⟩, [((.exit 0), ⟨[3], [.bld 5 false]⟩)], (seg 4 49), uou_, []⟩
noncomputable def ubjs_ : Env := mkE uzg_ [(0, unt_)] [] false
theorem uve_ : EnvOK Tryz.prog false ubjs_ := enk u9f_
noncomputable def uka_ : Code := u5_ Tryz.f388
theorem u7o_ : CutOK Tryz.prog false Tryz.f388.ntmps unt_ (sub uka_ [1, 1, 0, 1, 0]) :=
 lok (body := sub uka_ [1, 1, 0, 1, 0, 0]) (n := 1) (l := []) uve_ trivial
theorem ubha_ : uo_ Tryz.prog 388 ∧ FunOK Tryz.prog 388 uzf_ :=
 fnk (c := uka_) (l := [(unt_, sub uka_ [1, 1, 0, 1, 0])]) uve_ Tryz.func388 ⟨⟨by kernel_rfl, u7o_⟩, trivial⟩
noncomputable def unu_ : FSpec := ⟨[.val (.agg ZZ16)], [.val .str], uho_, true⟩
noncomputable def uwq_ : List (Nat × FSpec) := []
theorem u7p_ : FsOK Tryz.prog uwq_ := trivial
noncomputable def ubhb_ : Env := mkE uwq_ [] [] true
theorem u9g_ : EnvOK Tryz.prog true ubhb_ := enk u7p_
noncomputable def ubhc_ : Code := u5_ Tryz.f390
theorem uwr_ : uo_ Tryz.prog 390 ∧ FunOK Tryz.prog 390 unu_ :=
 fnk (c := ubhc_) (l := []) u9g_ Tryz.func390 trivial
noncomputable def uvf_ : FSpec := ⟨[.val (.int .u8)], [.val .bool], uj2_, true⟩
noncomputable def uvg_ : List (Nat × FSpec) := [(165, uba_)]
theorem u4u_ : FsOK Tryz.prog uvg_ := ⟨ubd_, trivial⟩
noncomputable def ubex_ : Env := mkE uvg_ [] [] true
theorem u7q_ : EnvOK Tryz.prog true ubex_ := enk u4u_
noncomputable def ubey_ : Code := u5_ Tryz.f391
theorem ubb3_ : uo_ Tryz.prog 391 ∧ FunOK Tryz.prog 391 uvf_ :=
 fnk (c := ubey_) (l := []) u7q_ Tryz.func391 trivial
noncomputable def u9h_ : FSpec := ⟨[.val .str], [.val .str], uyd_, false⟩
noncomputable def u9i_ : List (Nat × FSpec) := [(170, ufm_), (181, udu_), (182, ubw_)]
theorem ubjt_ : FsOK Tryz.prog u9i_ := ⟨ug4_, ufl_, ucf_, trivial⟩
noncomputable def uvh_ : CSpec := ⟨⟨[0, 3, 6, 7], [.val .str, .bld 5 false, .val (.int .i64), .val (.int .i64)]⟩, [((.exit 0), ⟨[3], [.bld 5 false]⟩)], ([4] ++ seg 7 24), uxj_, []⟩
noncomputable def ubtq_ : Env := mkE u9i_ [(0, uvh_)] [] false
theorem u3p_ : EnvOK Tryz.prog false ubtq_ := enk ubjt_
noncomputable def use_ : Code := u5_ Tryz.f392
theorem ubhd_ : CutOK Tryz.prog false Tryz.f392.ntmps uvh_ (sub use_ [1, 1, 0, 1, 0]) :=
 lok (body := sub use_ [1, 1, 0, 1, 0, 0]) (n := 1) (l := []) u3p_ trivial
theorem ubrl_ : uo_ Tryz.prog 392 ∧ FunOK Tryz.prog 392 u9h_ :=
 fnk (c := use_) (l := [(uvh_, sub use_ [1, 1, 0, 1, 0])]) u3p_ Tryz.func392 ⟨⟨by kernel_rfl, ubhd_⟩, trivial⟩
noncomputable def ud0_ : FSpec := ⟨[.val (.int .i64)], [.val .str], udr_, false⟩
noncomputable def ubls_ : List (Nat × FSpec) := [(80, udz_), (222, ubdf_)]
theorem ubrm_ : FsOK Tryz.prog ubls_ := ⟨ued_, ubs8_, trivial⟩
noncomputable def ubz5_ : Env := mkE ubls_ [] [] false
theorem ubtr_ : EnvOK Tryz.prog false ubz5_ := enk ubrm_
noncomputable def ubz6_ : Code := u5_ Tryz.f133
theorem uee_ : uo_ Tryz.prog 133 ∧ FunOK Tryz.prog 133 ud0_ :=
 fnk (c := ubz6_) (l := []) ubtr_ Tryz.func133 trivial
noncomputable def ura_ : FSpec := ⟨[.val .str], [.val .str], uf7_, false⟩
noncomputable def u1g_ : List (Nat × FSpec) := [(133, ud0_), (164, udk_), (165, uba_), (174, ucc_), (180, ub2_), (182, ubw_), (391, uvf_), (392, u9h_)]
theorem ubb4_ : FsOK Tryz.prog u1g_ := ⟨uee_, ud8_, ubd_, ucx_, ucw_, ucf_, ubb3_, ubrl_, trivial⟩
noncomputable def upd_ : CSpec := ⟨⟨[0, 3], [.val .str, .bld 5 false]⟩, [((.exit 0), ⟨[3], [.bld 5 false]⟩)], ([0] ++ seg 4 34), uqt_, []⟩
noncomputable def ubmw_ : Env := mkE u1g_ [(0, upd_)] [] false
theorem uws_ : EnvOK Tryz.prog false ubmw_ := enk ubb4_
noncomputable def umc_ : Code := u5_ Tryz.f389
theorem u9j_ : CutOK Tryz.prog false Tryz.f389.ntmps upd_ (sub umc_ [1, 1, 0, 0]) :=
 lok (body := sub umc_ [1, 1, 0, 0, 0]) (n := 1) (l := []) uws_ trivial
theorem u1h_ : uo_ Tryz.prog 389 ∧ FunOK Tryz.prog 389 ura_ :=
 fnk (c := umc_) (l := [(upd_, sub umc_ [1, 1, 0, 0])]) uws_ Tryz.func389 ⟨⟨by kernel_rfl, u9j_⟩, trivial⟩
noncomputable def umd_ : FSpec := ⟨[.val (.agg ZZ16)], [.val .str], uha_, false⟩
noncomputable def uvi_ : List (Nat × FSpec) := [(80, udz_), (388, uzf_), (389, ura_), (390, unu_)]
theorem u4v_ : FsOK Tryz.prog uvi_ := ⟨ued_, ubha_, u1h_, uwr_, trivial⟩
noncomputable def uk1_ : CSpec := ⟨⟨[1, 3, 9], [.box (.val ZZ16), .val .str, .val .bool]⟩, [(.normal, ⟨[1, 3], [.box (.val ZZ16), .val .str]⟩)], [3, 10, 11, 12, 13, 14, 15], uhf_, []⟩
noncomputable def ubez_ : Env := mkE uvi_ [(0, uk1_)] [] false
theorem uru_ : EnvOK Tryz.prog false ubez_ := enk u4v_
noncomputable def ueb_ : Code := u5_ Tryz.f385
theorem u3q_ : CutOK Tryz.prog false Tryz.f385.ntmps uk1_ (sub ueb_ [1, 1, 0, 1]) :=
 brk (c := uqq_ (sub ueb_ [1, 1, 0, 1])) (x := sub ueb_ [1, 1, 0, 1, 0]) (y := sub ueb_ [1, 1, 0, 1, 1]) (n := 0) (lx := []) (ly := []) uru_ trivial trivial
theorem uvj_ : uo_ Tryz.prog 385 ∧ FunOK Tryz.prog 385 umd_ :=
 fnk (c := ueb_) (l := [(uk1_, sub ueb_ [1, 1, 0, 1])]) uru_ Tryz.func385 ⟨⟨by kernel_rfl, u3q_⟩, trivial⟩
noncomputable def uxy_ : FSpec := ⟨[.val ZZ21], [.val ZZ21], urm_, true⟩
noncomputable def u9k_ : List (Nat × FSpec) := []
theorem ubju_ : FsOK Tryz.prog u9k_ := trivial
noncomputable def uvk_ : CSpec := ⟨⟨[0], [.val ZZ21]⟩, [((.exit 0), ⟨[0], [.val ZZ21]⟩)], ([0] ++ seg 3 17), uxk_, []⟩
noncomputable def ubts_ : Env := mkE u9k_ [(0, uvk_)] [] true
theorem u3r_ : EnvOK Tryz.prog true ubts_ := enk ubju_
noncomputable def usf_ : Code := u5_ Tryz.f396
theorem ubhe_ : CutOK Tryz.prog true Tryz.f396.ntmps uvk_ (sub usf_ [1, 0, 0]) :=
 lok (body := sub usf_ [1, 0, 0, 0]) (n := 1) (l := []) u3r_ trivial
theorem u9l_ : uo_ Tryz.prog 396 ∧ FunOK Tryz.prog 396 uxy_ :=
 fnk (c := usf_) (l := [(uvk_, sub usf_ [1, 0, 0])]) u3r_ Tryz.func396 ⟨⟨by kernel_rfl, ubhe_⟩, trivial⟩
noncomputable def unv_ : FSpec := ⟨[.val (.agg ZZ6)], [.val .str], uhp_, false⟩
noncomputable def uwt_ : List (Nat × FSpec) := [(80, udz_), (174, ucc_), (381, upc_), (396, uxy_)]
theorem u7r_ : FsOK Tryz.prog uwt_ := ⟨ued_, ucx_, uze_, u9l_, trivial⟩
noncomputable def ume_ : CSpec := ⟨⟨[1, 3, 11], [.box (.val ZZ6), .val .str, .val .bool]⟩, [(.normal, ⟨[1, 3], [.box (.val ZZ6), .val .str]⟩)], [3, 12, 13, 14, 15], uhv_, []⟩
noncomputable def umf_ : CSpec := ⟨⟨[3, 4, 21], [.val .str, .val ZZ21, .val .bool]⟩, [(.normal, ⟨[3], [.val .str]⟩)], [3, 22, 23, 24, 25, 26, 27], uhw_, []⟩
noncomputable def umg_ : CSpec := ⟨⟨[1, 3, 30], [.box (.val ZZ6), .val .str, .val .bool]⟩, [(.normal, ⟨[1, 3], [.box (.val ZZ6), .val .str]⟩)], ([3] ++ seg 31 11), uhx_, []⟩
noncomputable def umh_ : CSpec := ⟨⟨[1, 3, 44], [.box (.val ZZ6), .val .str, .val .bool]⟩, [(.normal, ⟨[1, 3], [.box (.val ZZ6), .val .str]⟩)], [3, 45, 46, 47, 48, 49, 50], uhy_, []⟩
noncomputable def umi_ : CSpec := ⟨⟨[1, 3, 53], [.box (.val ZZ6), .val .str, .val .bool]⟩, [(.normal, ⟨[1, 3], [.box (.val ZZ6), .val .str]⟩)], [3, 54, 55, 56, 57, 58, 59], uhz_, []⟩
noncomputable def umj_ : CSpec := ⟨⟨[6, 7, 73], [.val .str, .val (.int .i64), .val .bool]⟩, [(.normal, ⟨[6], [.val .str]⟩)], [6, 74, 75], uh0_, []⟩
noncomputable def umk_ : CSpec := ⟨⟨[3, 61, 62, 63], [.val .str, .val (.slice .str), .val (.int .i64), .val (.int .i64)]⟩, [((.exit 0), ⟨[3], [.val .str]⟩)], ([3, 5, 6, 7, 8] ++ seg 63 24), unl_, []⟩
noncomputable def ubhf_ : Env := mkE uwt_ [(0, ume_), (1, umf_), (2, umg_), (3, umh_), (4, umi_), (7, umj_), (5, umk_)] [] false
theorem ubx_ : EnvOK Tryz.prog false ubhf_ := enk u7r_
noncomputable def uj_ : Code := u5_ Tryz.f393
theorem u4w_ : CutOK Tryz.prog false Tryz.f393.ntmps ume_ (sub uj_ [1, 1, 0, 1]) :=
 brk (c := uqq_ (sub uj_ [1, 1, 0, 1])) (x := sub uj_ [1, 1, 0, 1, 0]) (y := sub uj_ [1, 1, 0, 1, 1]) (n := 0) (lx := []) (ly := []) ubx_ trivial trivial
theorem u4x_ : CutOK Tryz.prog false Tryz.f393.ntmps umf_ (sub uj_ [1, 1, 1, 0, 1, 1]) :=
 brk (c := uqq_ (sub uj_ [1, 1, 1, 0, 1, 1])) (x := sub uj_ [1, 1, 1, 0, 1, 1, 0]) (y := sub uj_ [1, 1, 1, 0, 1, 1, 1]) (n := 1) (lx := []) (ly := []) ubx_ trivial trivial
theorem u4y_ : CutOK Tryz.prog false Tryz.f393.ntmps umg_ (sub uj_ [1, 1, 1, 1, 0, 1]) :=
 brk (c := uqq_ (sub uj_ [1, 1, 1, 1, 0, 1])) (x := sub uj_ [1, 1, 1, 1, 0, 1, 0]) (y := sub uj_ [1, 1, 1, 1, 0, 1, 1]) (n := 2) (lx := []) (ly := []) ubx_ trivial trivial
theorem u4z_ : CutOK Tryz.prog false Tryz.f393.ntmps umh_ (sub uj_ [1, 1, 1, 1, 1, 0, 1]) :=
 brk (c := uqq_ (sub uj_ [1, 1, 1, 1, 1, 0, 1])) (x := sub uj_ [1, 1, 1, 1, 1, 0, 1, 0]) (y := sub uj_ [1, 1, 1, 1, 1, 0, 1, 1]) (n := 3) (lx := []) (ly := []) ubx_ trivial trivial
theorem u40_ : CutOK Tryz.prog false Tryz.f393.ntmps umi_ (sub uj_ [1, 1, 1, 1, 1, 1, 0, 1]) :=
 brk (c := uqq_ (sub uj_ [1, 1, 1, 1, 1, 1, 0, 1])) (x := sub uj_ [1, 1, 1, 1, 1, 1, 0, 1, 0]) (y := sub uj_ [1, 1, 1, 1, 1, 1, 0, 1, 1]) (n := 4) (lx := []) (ly := []) ubx_ trivial trivial
theorem u41_ : CutOK Tryz.prog false Tryz.f393.ntmps umj_ (sub uj_ [1, 1, 1, 1, 1, 1, 1, 0, 1, 0, 0, 1, 1, 0, 0, 1, 0, 1, 1]) :=
 brk (c := uqq_ (sub uj_ [1, 1, 1, 1, 1, 1, 1, 0, 1, 0, 0, 1, 1, 0, 0, 1, 0, 1, 1])) (x := sub uj_ [1, 1, 1, 1, 1, 1, 1, 0, 1, 0, 0, 1, 1, 0, 0, 1, 0, 1, 1, 0]) (y := sub uj_ [1, 1, 1, 1, 1, 1, 1, 0, 1, 0, 0, 1, 1, 0, 0, 1, 0, 1, 1, 1]) (n := 7) (lx := []) (ly := []) ubx_ trivial trivial
theorem u42_ : CutOK Tryz.prog false Tryz.f393.ntmps umk_ (sub uj_ [1, 1, 1, 1, 1, 1, 1, 0, 1, 0]) :=
 lok (body := sub uj_ [1, 1, 1, 1, 1, 1, 1, 0, 1, 0, 0]) (n := 6) (l := [(umj_, sub uj_ [1, 1, 1, 1, 1, 1, 1, 0, 1, 0, 0, 1, 1, 0, 0, 1, 0, 1, 1])]) ubx_ ⟨⟨by kernel_rfl, u41_⟩, trivial⟩
theorem uwu_ : uo_ Tryz.prog 393 ∧ FunOK Tryz.prog 393 unv_ :=
 fnk (c := uj_) (l := [(ume_, sub uj_ [1, 1, 0, 1]), (umf_, sub uj_ [1, 1, 1, 0, 1, 1]), (umg_, sub uj_ [1, 1, 1, 1, 0, 1]), (umh_, sub uj_ [1, 1, 1, 1, 1, 0, 1]), (umi_, sub uj_ [1, 1, 1, 1, 1, 1, 0, 1]), (umk_, sub uj_ [1, 1, 1, 1, 1, 1, 1, 0, 1, 0])]) ubx_ Tryz.func393 ⟨⟨by kernel_rfl, u4w_⟩, ⟨by kernel_rfl, u4x_⟩, ⟨by kernel_rfl, u4y_⟩, ⟨by kernel_rfl, u4z_⟩, ⟨by kernel_rfl, u40_⟩, ⟨by kernel_rfl, u42_⟩, trivial⟩
noncomputable def ujm_ : FSpec := ⟨[.val (.agg (.slice ZZ13))], [.val .str], ufv_, false⟩
noncomputable def urv_ : List (Nat × FSpec) := [(80, udz_), (100, uni_), (186, ujb_)]
theorem u19_ : FsOK Tryz.prog urv_ := ⟨ued_, urq_, upb_, trivial⟩
noncomputable def uid_ : CSpec := ⟨⟨[3, 7, 8, 9], [.own 9 .str false, .val (.slice ZZ13), .val (.int .i64), .val (.int .i64)]⟩, [((.exit 0), ⟨[3], [.own 9 .str false]⟩)], ([3, 5] ++ seg 9 25), ujh_, []⟩
noncomputable def u9m_ : Env := mkE urv_ [(0, uid_)] [] false
theorem upe_ : EnvOK Tryz.prog false u9m_ := enk u19_
noncomputable def ug5_ : Code := u5_ Tryz.f402
theorem u0h_ : CutOK Tryz.prog false Tryz.f402.ntmps uid_ (sub ug5_ [1, 1, 0, 1, 0]) :=
 lok (body := sub ug5_ [1, 1, 0, 1, 0, 0]) (n := 1) (l := []) upe_ trivial
theorem urw_ : uo_ Tryz.prog 402 ∧ FunOK Tryz.prog 402 ujm_ :=
 fnk (c := ug5_) (l := [(uid_, sub ug5_ [1, 1, 0, 1, 0])]) upe_ Tryz.func402 ⟨⟨by kernel_rfl, u0h_⟩, trivial⟩
noncomputable def upf_ : FSpec := ⟨[.val (.agg (.int .i64))], [.val .str], uit_, true⟩
noncomputable def uzh_ : List (Nat × FSpec) := [(80, udz_)]
theorem u9n_ : FsOK Tryz.prog uzh_ := ⟨ued_, trivial⟩
noncomputable def ubjv_ : Env := mkE uzh_ [] [] true
theorem ubb5_ : EnvOK Tryz.prog true ubjv_ := enk u9n_
noncomputable def ubjw_ : Code := u5_ Tryz.f410
theorem uzi_ : uo_ Tryz.prog 410 ∧ FunOK Tryz.prog 410 upf_ :=
 fnk (c := ubjw_) (l := []) ubb5_ Tryz.func410 trivial
noncomputable def u9o_ : FSpec := ⟨[.val ZZ2], [.val .str, .val (.int .i64)], uye_, false⟩
noncomputable def u9p_ : List (Nat × FSpec) := [(378, uns_), (385, umd_), (393, unv_), (402, ujm_), (410, upf_)]
theorem ubjx_ : FsOK Tryz.prog u9p_ := ⟨uwp_, uvj_, uwu_, urw_, uzi_, trivial⟩
noncomputable def ubtt_ : Env := mkE u9p_ [] [] false
theorem ubmx_ : EnvOK Tryz.prog false ubtt_ := enk ubjx_
noncomputable def ubtu_ : Code := u5_ Tryz.f57
theorem ubrn_ : uo_ Tryz.prog 57 ∧ FunOK Tryz.prog 57 u9o_ :=
 fnk (c := ubtu_) (l := []) ubmx_ Tryz.func57 trivial
noncomputable def upg_ : FSpec := ⟨[.val (.int .i64), .val .str], [.val .str, .val (.int .i64)], uov_, false⟩
noncomputable def ubhg_ : List (Nat × FSpec) := [(56, uyl_), (57, u9o_)]
theorem ubpd_ : FsOK Tryz.prog ubhg_ := ⟨u7l_, ubrn_, trivial⟩
noncomputable def ubxv_ : Env := mkE ubhg_ [] [] false
theorem ubro_ : EnvOK Tryz.prog false ubxv_ := enk ubpd_
noncomputable def ubxw_ : Code := u5_ Tryz.f22
theorem uvl_ : uo_ Tryz.prog 22 ∧ FunOK Tryz.prog 22 upg_ :=
 fnk (c := ubxw_) (l := []) ubro_ Tryz.func22 trivial
noncomputable def uwv_ : FSpec := ⟨[.val (.agg ZZ4)], [.val (.int .i64)], ul2_, false⟩
noncomputable def uww_ : List (Nat × FSpec) := [(22, upg_)]
theorem u7s_ : FsOK Tryz.prog uww_ := ⟨uvl_, trivial⟩
noncomputable def uml_ : CSpec := ⟨⟨[1, 12, 13, 14], [.box (.val ZZ4), .val ZZ14, .val (.int .i64), .val (.int .i64)]⟩, [((.exit 0), ⟨[], []⟩), (.ret, ⟨[2], [.val (.int .i64)]⟩)], ([2, 4, 5, 6] ++ seg 14 30), unm_, []⟩
noncomputable def ubhh_ : Env := mkE uww_ [(1, uml_)] [] false
theorem utn_ : EnvOK Tryz.prog false ubhh_ := enk u7s_
noncomputable def ujc_ : Code := u5_ Tryz.f21
theorem u43_ : CutOK Tryz.prog false Tryz.f21.ntmps uml_ (sub ujc_ [1, 1, 0, 1, 0]) :=
 lok (body := sub ujc_ [1, 1, 0, 1, 0, 0]) (n := 2) (l := []) utn_ trivial
theorem ube0_ : uo_ Tryz.prog 21 ∧ FunOK Tryz.prog 21 uwv_ :=
 fnk (c := ujc_) (l := [(uml_, sub ujc_ [1, 1, 0, 1, 0])]) utn_ Tryz.func21 ⟨⟨by kernel_rfl, u43_⟩, trivial⟩
noncomputable def urx_ : FSpec := ⟨[.val (.slice .str)], [.val (.int .i64)], uh1_, true⟩
noncomputable def ury_ : List (Nat × FSpec) := []
theorem u2a_ : FsOK Tryz.prog ury_ := trivial
noncomputable def uie_ : CSpec := ⟨⟨[4, 5, 25, 26], [.val .str, .val .bool, .val (.int .i64), .val (.int .i64)]⟩, [((.exit 2), ⟨[5], [.val .bool]⟩)], ([5, 6] ++ seg 26 17), uji_, []⟩
noncomputable def uif_ : CSpec := ⟨⟨[0, 10, 11, 12], [.val (.slice .str), .val (.slice .str), .val (.int .i64), .val (.int .i64)]⟩, [((.exit 0), ⟨[], []⟩), (.ret, ⟨[2], [.val (.int .i64)]⟩)], ([2, 3, 4, 5, 6] ++ seg 12 46), ujj_, []⟩
noncomputable def u9q_ : Env := mkE ury_ [(3, uie_), (1, uif_)] [] true
theorem uht_ : EnvOK Tryz.prog true u9q_ := enk u2a_
noncomputable def ucg_ : Code := u5_ Tryz.f23
theorem u0i_ : CutOK Tryz.prog true Tryz.f23.ntmps uie_ (sub ucg_ [1, 1, 0, 1, 0, 0, 1, 1, 0, 0, 1, 1, 0, 1, 0]) :=
 lok (body := sub ucg_ [1, 1, 0, 1, 0, 0, 1, 1, 0, 0, 1, 1, 0, 1, 0, 0]) (n := 4) (l := []) uht_ trivial
theorem u0j_ : CutOK Tryz.prog true Tryz.f23.ntmps uif_ (sub ucg_ [1, 1, 0, 1, 0]) :=
 lok (body := sub ucg_ [1, 1, 0, 1, 0, 0]) (n := 2) (l := [(uie_, sub ucg_ [1, 1, 0, 1, 0, 0, 1, 1, 0, 0, 1, 1, 0, 1, 0])]) uht_ ⟨⟨by kernel_rfl, u0i_⟩, trivial⟩
theorem u7t_ : uo_ Tryz.prog 23 ∧ FunOK Tryz.prog 23 urx_ :=
 fnk (c := ucg_) (l := [(uif_, sub ucg_ [1, 1, 0, 1, 0])]) uht_ Tryz.func23 ⟨⟨by kernel_rfl, u0j_⟩, trivial⟩
noncomputable def uto_ : FSpec := ⟨[.val (.agg ZZ4)], [.val (.int .i64)], uiu_, false⟩
noncomputable def utp_ : List (Nat × FSpec) := [(20, ubdo_), (21, uwv_), (22, upg_), (23, urx_)]
theorem u3s_ : FsOK Tryz.prog utp_ := ⟨ubth_, ube0_, uvl_, u7t_, trivial⟩
noncomputable def ujn_ : CSpec := ⟨⟨[1, 32, 33, 34], [.box (.val ZZ4), .val (.slice .str), .val (.int .i64), .val (.int .i64)]⟩, [((.exit 1), ⟨[1], [.box (.val ZZ4)]⟩), (.ret, ⟨[2], [.val (.int .i64)]⟩)], ([2, 5, 6, 7] ++ seg 34 15), ukj_, []⟩
noncomputable def ubb6_ : Env := mkE utp_ [(4, ujn_)] [] false
theorem uqj_ : EnvOK Tryz.prog false ubb6_ := enk u3s_
noncomputable def uhg_ : Code := u5_ Tryz.f7
theorem u2b_ : CutOK Tryz.prog false Tryz.f7.ntmps ujn_ (sub uhg_ [1, 1, 1, 1, 0, 1, 0]) :=
 lok (body := sub uhg_ [1, 1, 1, 1, 0, 1, 0, 0]) (n := 5) (l := []) uqj_ trivial
theorem u9r_ : uo_ Tryz.prog 7 ∧ FunOK Tryz.prog 7 uto_ :=
 fnk (c := uhg_) (l := [(ujn_, sub uhg_ [1, 1, 1, 1, 0, 1, 0])]) uqj_ Tryz.func7 ⟨⟨by kernel_rfl, u2b_⟩, trivial⟩
noncomputable def ubdv_ : FSpec := ⟨[], [.val (.arr 4 (.int .i64))], u12_, true⟩
noncomputable def ubdw_ : List (Nat × FSpec) := []
theorem ubmy_ : FsOK Tryz.prog ubdw_ := trivial
noncomputable def ubwf_ : Env := mkE ubdw_ [] [] true
theorem ubpe_ : EnvOK Tryz.prog true ubwf_ := enk ubmy_
noncomputable def ubwg_ : Code := u5_ Tryz.f74
theorem ubtv_ : uo_ Tryz.prog 74 ∧ FunOK Tryz.prog 74 ubdv_ :=
 fnk (c := ubwg_) (l := []) ubpe_ Tryz.func74 trivial
noncomputable def uph_ : FSpec := ⟨[.val ZZ21, .val .str, .hof false (.int .i64) .str], [.val .str], uiv_, false⟩
noncomputable def uzj_ : List (Nat × FSpec) := [(180, ub2_), (182, ubw_)]
theorem u9s_ : FsOK Tryz.prog uzj_ := ⟨ucw_, ucf_, trivial⟩
noncomputable def unw_ : CSpec := ⟨⟨[2, 7, 10, 11, 12], [.hof false (.int .i64) .str, .bld 5 false, .val ZZ21, .val (.int .i64), .val (.int .i64)]⟩, [((.exit 0), ⟨[7], [.bld 5 false]⟩)], ([9] ++ seg 12 9), uow_, []⟩
noncomputable def ubjy_ : Env := mkE uzj_ [(0, unw_)] [] false
theorem uvm_ : EnvOK Tryz.prog false ubjy_ := enk u9s_
noncomputable def ukb_ : Code := u5_ Tryz.f382
theorem u7u_ : CutOK Tryz.prog false Tryz.f382.ntmps unw_ (sub ukb_ [1, 1, 0, 1, 0]) :=
 lok (body := sub ukb_ [1, 1, 0, 1, 0, 0]) (n := 1) (l := []) uvm_ trivial
theorem uzk_ : uo_ Tryz.prog 382 ∧ FunOK Tryz.prog 382 uph_ :=
 fnk (c := ukb_) (l := [(unw_, sub ukb_ [1, 1, 0, 1, 0])]) uvm_ Tryz.func382 ⟨⟨by kernel_rfl, u7u_⟩, trivial⟩
noncomputable def uk2_ : FSpec := ⟨[.val (.slice .str), .val .str, .hof false .str .str], [.val .str], ugl_, false⟩
noncomputable def utq_ : List (Nat × FSpec) := [(180, ub2_), (182, ubw_)]
theorem u3t_ : FsOK Tryz.prog utq_ := ⟨ucw_, ucf_, trivial⟩
noncomputable def ujo_ : CSpec := ⟨⟨[2, 7, 10, 11, 12], [.hof false .str .str, .bld 5 false, .val (.slice .str), .val (.int .i64), .val (.int .i64)]⟩, [((.exit 0), ⟨[7], [.bld 5 false]⟩)], ([9] ++ seg 12 9), ukk_, []⟩
noncomputable def ubb7_ : Env := mkE utq_ [(0, ujo_)] [] false
theorem uqk_ : EnvOK Tryz.prog false ubb7_ := enk u3t_
noncomputable def uhh_ : Code := u5_ Tryz.f383
theorem u2c_ : CutOK Tryz.prog false Tryz.f383.ntmps ujo_ (sub uhh_ [1, 1, 0, 1, 0]) :=
 lok (body := sub uhh_ [1, 1, 0, 1, 0, 0]) (n := 1) (l := []) uqk_ trivial
theorem utr_ : uo_ Tryz.prog 383 ∧ FunOK Tryz.prog 383 uk2_ :=
 fnk (c := uhh_) (l := [(ujo_, sub uhh_ [1, 1, 0, 1, 0])]) uqk_ Tryz.func383 ⟨⟨by kernel_rfl, u2c_⟩, trivial⟩
noncomputable def u9t_ : FSpec := ⟨[.val .str], [.val .str], uyf_, false⟩
noncomputable def u9u_ : List (Nat × FSpec) := [(133, ud0_), (174, ucc_)]
theorem ubjz_ : FsOK Tryz.prog u9u_ := ⟨uee_, ucx_, trivial⟩
noncomputable def ubtw_ : Env := mkE u9u_ [] [] false
theorem ubmz_ : EnvOK Tryz.prog false ubtw_ := enk ubjz_
noncomputable def ubtx_ : Code := u5_ Tryz.f384
theorem ubrp_ : uo_ Tryz.prog 384 ∧ FunOK Tryz.prog 384 u9t_ :=
 fnk (c := ubtx_) (l := []) ubmz_ Tryz.func384 trivial
noncomputable def urb_ : FSpec := ⟨[.val (.agg (.prod (.arr 3 (.int .i64)) (.slice .str)))], [.val .str], ukl_, false⟩
noncomputable def u1i_ : List (Nat × FSpec) := [(133, ud0_), (382, uph_), (383, uk2_), (384, u9t_)]
theorem ubb8_ : FsOK Tryz.prog u1i_ := ⟨uee_, uzk_, utr_, ubrp_, trivial⟩
noncomputable def ubm0_ : Env := mkE u1i_ [] [] false
theorem ube1_ : EnvOK Tryz.prog false ubm0_ := enk ubb8_
noncomputable def ubm1_ : Code := u5_ Tryz.f379
theorem u1j_ : uo_ Tryz.prog 379 ∧ FunOK Tryz.prog 379 urb_ :=
 fnk (c := ubm1_) (l := []) ube1_ Tryz.func379 trivial
noncomputable def upi_ : FSpec := ⟨[.val (.agg ZZ16)], [.val .str], uiw_, false⟩
noncomputable def uzl_ : List (Nat × FSpec) := [(133, ud0_), (389, ura_), (390, unu_)]
theorem u9v_ : FsOK Tryz.prog uzl_ := ⟨uee_, u1h_, uwr_, trivial⟩
noncomputable def ubj0_ : Env := mkE uzl_ [] [] false
theorem ubb9_ : EnvOK Tryz.prog false ubj0_ := enk u9v_
noncomputable def ubj1_ : Code := u5_ Tryz.f386
theorem uzm_ : uo_ Tryz.prog 386 ∧ FunOK Tryz.prog 386 upi_ :=
 fnk (c := ubj1_) (l := []) ubb9_ Tryz.func386 trivial
noncomputable def uvn_ : FSpec := ⟨[.val (.int .i64)], [.val .str], uj3_, false⟩
noncomputable def uvo_ : List (Nat × FSpec) := [(133, ud0_)]
theorem u44_ : FsOK Tryz.prog uvo_ := ⟨uee_, trivial⟩
noncomputable def ube2_ : Env := mkE uvo_ [] [] false
theorem u7v_ : EnvOK Tryz.prog false ube2_ := enk u44_
noncomputable def ube3_ : Code := u5_ Tryz.f397
theorem ubca_ : uo_ Tryz.prog 397 ∧ FunOK Tryz.prog 397 uvn_ :=
 fnk (c := ube3_) (l := []) u7v_ Tryz.func397 trivial
noncomputable def uwx_ : FSpec := ⟨[.val (.agg ZZ6)], [.val (.int .i64)], ul3_, true⟩
noncomputable def uwy_ : List (Nat × FSpec) := []
theorem u7w_ : FsOK Tryz.prog uwy_ := trivial
noncomputable def ubhi_ : Env := mkE uwy_ [] [] true
theorem u9w_ : EnvOK Tryz.prog true ubhi_ := enk u7w_
noncomputable def ubhj_ : Code := u5_ Tryz.f398
theorem ube4_ : uo_ Tryz.prog 398 ∧ FunOK Tryz.prog 398 uwx_ :=
 fnk (c := ubhj_) (l := []) u9w_ Tryz.func398 trivial
noncomputable def ubhk_ : FSpec := ⟨[.val (.int .i64)], [.val .str], u5z_, false⟩
noncomputable def ubhl_ : List (Nat × FSpec) := [(133, ud0_)]
theorem ubpf_ : FsOK Tryz.prog ubhl_ := ⟨uee_, trivial⟩
noncomputable def ubxx_ : Env := mkE ubhl_ [] [] false
theorem ubrq_ : EnvOK Tryz.prog false ubxx_ := enk ubpf_
noncomputable def ubxy_ : Code := u5_ Tryz.f399
theorem ubwh_ : uo_ Tryz.prog 399 ∧ FunOK Tryz.prog 399 ubhk_ :=
 fnk (c := ubxy_) (l := []) ubrq_ Tryz.func399 trivial
noncomputable def u6o_ : FSpec := ⟨[.val .str], [.val .str], uuo_, false⟩
noncomputable def u6p_ : List (Nat × FSpec) := [(133, ud0_), (174, ucc_)]
theorem ubhm_ : FsOK Tryz.prog u6p_ := ⟨uee_, ucx_, trivial⟩
noncomputable def ubrr_ : Env := mkE u6p_ [] [] false
theorem ubj2_ : EnvOK Tryz.prog false ubrr_ := enk ubhm_
noncomputable def ubrs_ : Code := u5_ Tryz.f400
theorem ubpg_ : uo_ Tryz.prog 400 ∧ FunOK Tryz.prog 400 u6o_ :=
 fnk (c := ubrs_) (l := []) ubj2_ Tryz.func400 trivial
noncomputable def urc_ : FSpec := ⟨[.val (.agg ZZ6)], [.val .str], ukm_, false⟩
noncomputable def u1k_ : List (Nat × FSpec) := [(80, udz_), (133, ud0_), (382, uph_), (383, uk2_), (396, uxy_), (397, uvn_), (398, uwx_), (399, ubhk_), (400, u6o_)]
theorem ubcb_ : FsOK Tryz.prog u1k_ := ⟨ued_, uee_, uzk_, utr_, u9l_, ubca_, ube4_, ubwh_, ubpg_, trivial⟩
noncomputable def upj_ : CSpec := ⟨⟨[1, 3, 27], [.box (.val ZZ6), .val .str, .val .bool]⟩, [(.normal, ⟨[1, 3], [.box (.val ZZ6), .val .str]⟩)], ([3] ++ seg 28 8), uj4_, []⟩
noncomputable def ubm2_ : Env := mkE u1k_ [(0, upj_)] [] false
theorem uwz_ : EnvOK Tryz.prog false ubm2_ := enk ubcb_
noncomputable def uga_ : Code := u5_ Tryz.f394
theorem u9x_ : CutOK Tryz.prog false Tryz.f394.ntmps upj_ (sub uga_ [1, 1, 1, 0, 1]) :=
 brk (c := uqq_ (sub uga_ [1, 1, 1, 0, 1])) (x := sub uga_ [1, 1, 1, 0, 1, 0]) (y := sub uga_ [1, 1, 1, 0, 1, 1]) (n := 0) (lx := []) (ly := []) uwz_ trivial trivial
theorem u1l_ : uo_ Tryz.prog 394 ∧ FunOK Tryz.prog 394 urc_ :=
 fnk (c := uga_) (l := [(upj_, sub uga_ [1, 1, 1, 0, 1])]) uwz_ Tryz.func394 ⟨⟨by kernel_rfl, u9x_⟩, trivial⟩
noncomputable def u3u_ : FSpec := ⟨[], [.val (.slice .str)], uyv_, true⟩
noncomputable def ubhn_ : List (Nat × FSpec) := []
theorem ubph_ : FsOK Tryz.prog ubhn_ := trivial
noncomputable def ubxz_ : Env := mkE ubhn_ [] [] true
theorem ubrt_ : EnvOK Tryz.prog true ubxz_ := enk ubph_
noncomputable def ubx0_ : Code := u5_ Tryz.f408
theorem ubho_ : uo_ Tryz.prog 408 ∧ FunOK Tryz.prog 408 u3u_ :=
 fnk (c := ubx0_) (l := []) ubrt_ Tryz.func408 trivial
noncomputable def upk_ : FSpec := ⟨[.val (.slice .str), .val .str], [.val (.int .i64)], uix_, true⟩
noncomputable def uzn_ : List (Nat × FSpec) := []
theorem u9y_ : FsOK Tryz.prog uzn_ := trivial
noncomputable def unx_ : CSpec := ⟨⟨[0, 1, 7, 8], [.val (.slice .str), .val .str, .val (.int .i64), .val (.int .i64)]⟩, [((.exit 0), ⟨[], []⟩), (.ret, ⟨[4], [.val (.int .i64)]⟩)], ([4, 5] ++ seg 8 11), uox_, []⟩
noncomputable def ubj3_ : Env := mkE uzn_ [(0, unx_)] [] true
theorem uvp_ : EnvOK Tryz.prog true ubj3_ := enk u9y_
noncomputable def ukc_ : Code := u5_ Tryz.f409
theorem u7x_ : CutOK Tryz.prog true Tryz.f409.ntmps unx_ (sub ukc_ [1, 0, 1, 0]) :=
 lok (body := sub ukc_ [1, 0, 1, 0, 0]) (n := 1) (l := []) uvp_ trivial
theorem uzo_ : uo_ Tryz.prog 409 ∧ FunOK Tryz.prog 409 upk_ :=
 fnk (c := ukc_) (l := [(unx_, sub ukc_ [1, 0, 1, 0])]) uvp_ Tryz.func409 ⟨⟨by kernel_rfl, u7x_⟩, trivial⟩
noncomputable def uts_ : FSpec := ⟨[.val (.slice .str), .val .str], [.val .bool], uiy_, true⟩
noncomputable def utt_ : List (Nat × FSpec) := [(409, upk_)]
theorem u3v_ : FsOK Tryz.prog utt_ := ⟨uzo_, trivial⟩
noncomputable def ubcc_ : Env := mkE utt_ [] [] true
theorem u45_ : EnvOK Tryz.prog true ubcc_ := enk u3v_
noncomputable def ubcd_ : Code := u5_ Tryz.f407
theorem u9z_ : uo_ Tryz.prog 407 ∧ FunOK Tryz.prog 407 uts_ :=
 fnk (c := ubcd_) (l := []) u45_ Tryz.func407 trivial
noncomputable def uny_ : FSpec := ⟨[.val ZZ13], [.val .bool], uhq_, true⟩
noncomputable def uw0_ : List (Nat × FSpec) := [(407, uts_), (408, u3u_)]
theorem u7y_ : FsOK Tryz.prog uw0_ := ⟨u9z_, ubho_, trivial⟩
noncomputable def ubhp_ : Env := mkE uw0_ [] [] true
theorem u90_ : EnvOK Tryz.prog true ubhp_ := enk u7y_
noncomputable def ubhq_ : Code := u5_ Tryz.f405
theorem uw1_ : uo_ Tryz.prog 405 ∧ FunOK Tryz.prog 405 uny_ :=
 fnk (c := ubhq_) (l := []) u90_ Tryz.func405 trivial
noncomputable def u6q_ : FSpec := ⟨[.val ZZ13], [.val .str], uoy_, false⟩
noncomputable def u6r_ : List (Nat × FSpec) := [(80, udz_), (133, ud0_), (405, uny_), (408, u3u_), (409, upk_)]
theorem ubhr_ : FsOK Tryz.prog u6r_ := ⟨ued_, uee_, uw1_, ubho_, uzo_, trivial⟩
noncomputable def ubru_ : Env := mkE u6r_ [] [] false
theorem ubj4_ : EnvOK Tryz.prog false ubru_ := enk ubhr_
noncomputable def ubrv_ : Code := u5_ Tryz.f406
theorem ubpi_ : uo_ Tryz.prog 406 ∧ FunOK Tryz.prog 406 u6q_ :=
 fnk (c := ubrv_) (l := []) ubj4_ Tryz.func406 trivial
noncomputable def umm_ : FSpec := ⟨[.val (.agg (.slice ZZ13))], [.val .str], uhb_, false⟩
noncomputable def uvq_ : List (Nat × FSpec) := [(80, udz_), (186, ujb_), (405, uny_), (406, u6q_)]
theorem u46_ : FsOK Tryz.prog uvq_ := ⟨ued_, upb_, uw1_, ubpi_, trivial⟩
noncomputable def uk3_ : CSpec := ⟨⟨[3, 4, 8, 9, 10], [.val .str, .val (.int .i64), .val (.slice ZZ13), .val (.int .i64), .val (.int .i64)]⟩, [((.exit 0), ⟨[3], [.val .str]⟩)], ([3, 4, 6] ++ seg 10 31), ul4_, []⟩
noncomputable def ube5_ : Env := mkE uvq_ [(0, uk3_)] [] false
theorem urz_ : EnvOK Tryz.prog false ube5_ := enk u46_
noncomputable def uh5_ : Code := u5_ Tryz.f403
theorem u3w_ : CutOK Tryz.prog false Tryz.f403.ntmps uk3_ (sub uh5_ [1, 1, 0, 1, 0]) :=
 lok (body := sub uh5_ [1, 1, 0, 1, 0, 0]) (n := 1) (l := []) urz_ trivial
theorem uvr_ : uo_ Tryz.prog 403 ∧ FunOK Tryz.prog 403 umm_ :=
 fnk (c := uh5_) (l := [(uk3_, sub uh5_ [1, 1, 0, 1, 0])]) urz_ Tryz.func403 ⟨⟨by kernel_rfl, u3w_⟩, trivial⟩
noncomputable def us5_ : FSpec := ⟨[.val (.agg (.int .i64))], [.val .str], umz_, false⟩
noncomputable def u3x_ : List (Nat × FSpec) := [(133, ud0_)]
theorem ube6_ : FsOK Tryz.prog u3x_ := ⟨uee_, trivial⟩
noncomputable def ubpj_ : Env := mkE u3x_ [] [] false
theorem ubhs_ : EnvOK Tryz.prog false ubpj_ := enk ube6_
noncomputable def ubpk_ : Code := u5_ Tryz.f411
theorem u3y_ : uo_ Tryz.prog 411 ∧ FunOK Tryz.prog 411 us5_ :=
 fnk (c := ubpk_) (l := []) ubhs_ Tryz.func411 trivial
noncomputable def ubpl_ : FSpec := ⟨[.val (.int .i64), .val .str], [.val .str, .val (.int .i64)], ubiy_, false⟩
noncomputable def ubpm_ : List (Nat × FSpec) := [(56, uyl_), (379, urb_), (386, upi_), (394, urc_), (403, umm_), (411, us5_)]
theorem ubty_ : FsOK Tryz.prog ubpm_ := ⟨u7l_, u1j_, uzm_, u1l_, uvr_, u3y_, trivial⟩
noncomputable def ub1n_ : Env := mkE ubpm_ [] [] false
theorem ubwi_ : EnvOK Tryz.prog false ub1n_ := enk ubty_
noncomputable def ub1o_ : Code := u5_ Tryz.f75
theorem ubz7_ : uo_ Tryz.prog 75 ∧ FunOK Tryz.prog 75 ubpl_ :=
 fnk (c := ub1o_) (l := []) ubwi_ Tryz.func75 trivial
noncomputable def uew_ : FSpec := ⟨[.io 102 ZZ3, .val (.int .i64), .val (.int .i64), .hof false ZZ24 (.int .i64)], [], ube_, false⟩
noncomputable def uex_ : List (Nat × FSpec) := []
theorem ujd_ : FsOK Tryz.prog uex_ := trivial
noncomputable def ub9_ : CSpec := ⟨⟨[0, 1, 3, 9], [.own 102 ZZ3 true, .val (.int .i64), .hof false ZZ24 (.int .i64), .val (.int .i64)]⟩, [((.exit 2), ⟨[0], [.own 102 ZZ3 true]⟩)], ([9] ++ seg 18 35), ucd_, []⟩
noncomputable def uca_ : CSpec := ⟨⟨[0, 1, 2, 3, 8], [.own 102 ZZ3 true, .val (.int .i64), .val (.int .i64), .hof false ZZ24 (.int .i64), .val (.int .i64)]⟩, [((.exit 0), ⟨[0], [.own 102 ZZ3 true]⟩)], ([8, 9] ++ seg 12 41), uce_, []⟩
noncomputable def ulh_ : Env := mkE uex_ [(2, ub9_), (0, uca_)] [] false
theorem ub6_ : EnvOK Tryz.prog false ulh_ := enk ujd_
noncomputable def u1_ : Code := u5_ Tryz.f223
theorem uig_ : CutOK Tryz.prog false Tryz.f223.ntmps ub9_ (sub u1_ [1, 0, 0, 1, 0, 0, 1, 0]) :=
 lok (body := sub u1_ [1, 0, 0, 1, 0, 0, 1, 0, 0]) (n := 3) (l := []) ub6_ trivial
theorem uih_ : CutOK Tryz.prog false Tryz.f223.ntmps uca_ (sub u1_ [1, 0]) :=
 lok (body := sub u1_ [1, 0, 0]) (n := 1) (l := [(ub9_, sub u1_ [1, 0, 0, 1, 0, 0, 1, 0])]) ub6_ ⟨⟨by kernel_rfl, uig_⟩, trivial⟩
theorem uk4_ : uo_ Tryz.prog 223 ∧ FunOK Tryz.prog 223 uew_ :=
 fnk (c := u1_) (l := [(uca_, sub u1_ [1, 0])]) ub6_ Tryz.func223 ⟨⟨by kernel_rfl, uih_⟩, trivial⟩
noncomputable def ufz_ : FSpec := ⟨[.io 102 ZZ3, .val (.int .i64), .val (.int .i64), .val (.int .i64), .hof false ZZ24 (.int .i64)], [], ubc_, true⟩
noncomputable def uf0_ : List (Nat × FSpec) := []
theorem uli_ : FsOK Tryz.prog uf0_ := trivial
noncomputable def ucy_ : CSpec := ⟨⟨[0, 1, 2, 3, 10], [.own 102 ZZ3 true, .val (.int .i64), .val (.int .i64), .val (.int .i64), .val (.int .i64)]⟩, [((.exit 0), ⟨[0], [.own 102 ZZ3 true]⟩)], (seg 10 28), udb_, []⟩
noncomputable def uol_ : Env := mkE uf0_ [(0, ucy_)] [] true
theorem ufn_ : EnvOK Tryz.prog true uol_ := enk uli_
noncomputable def ubz_ : Code := u5_ Tryz.f331
theorem uk5_ : CutOK Tryz.prog true Tryz.f331.ntmps ucy_ (sub ubz_ [1, 0]) :=
 lok (body := sub ubz_ [1, 0, 0]) (n := 1) (l := []) ufn_ trivial
theorem unz_ : uo_ Tryz.prog 331 ∧ FunOK Tryz.prog 331 ufz_ :=
 fnk (c := ubz_) (l := [(ucy_, sub ubz_ [1, 0])]) ufn_ Tryz.func331 ⟨⟨by kernel_rfl, uk5_⟩, trivial⟩
noncomputable def ug6_ : FSpec := ⟨[.io 102 ZZ3, .val (.int .i64), .val (.int .i64), .val (.int .i64), .hof false ZZ24 (.int .i64)], [], ucs_, true⟩
noncomputable def ug7_ : List (Nat × FSpec) := [(331, ufz_)]
theorem un0_ : FsOK Tryz.prog ug7_ := ⟨unz_, trivial⟩
noncomputable def udv_ : CSpec := ⟨⟨[0, 2, 4, 10, 11], [.own 102 ZZ3 true, .val (.int .i64), .hof false ZZ24 (.int .i64), .val (.int .i64), .val (.int .i64)]⟩, [((.exit 0), ⟨[0, 10], [.own 102 ZZ3 true, .val (.int .i64)]⟩)], ([10, 11] ++ seg 18 32), ud4_, []⟩
noncomputable def urd_ : Env := mkE ug7_ [(0, udv_)] [] true
theorem ugg_ : EnvOK Tryz.prog true urd_ := enk un0_
noncomputable def ucb_ : Code := u5_ Tryz.f296
theorem um4_ : CutOK Tryz.prog true Tryz.f296.ntmps udv_ (sub ucb_ [1, 1, 0, 0]) :=
 lok (body := sub ucb_ [1, 1, 0, 0, 0]) (n := 1) (l := []) ugg_ trivial
theorem up8_ : uo_ Tryz.prog 296 ∧ FunOK Tryz.prog 296 ug6_ :=
 fnk (c := ucb_) (l := [(udv_, sub ucb_ [1, 1, 0, 0])]) ugg_ Tryz.func296 ⟨⟨by kernel_rfl, um4_⟩, trivial⟩
noncomputable def uk_ (n : Nat) : FSpec := ⟨[.io 102 ZZ3, .val (.int .i64), .val (.int .i64), .val (.int .i64), .hof false ZZ24 (.int .i64)], [], ul_ n, false⟩
noncomputable def ugh_ : FSpec := ⟨[.io 102 ZZ3, .val (.int .i64), .val (.int .i64), .val (.int .i64), .hof false ZZ24 (.int .i64)], [], ubm_, false⟩
noncomputable def ugi_ (n : Nat) : List (Nat × FSpec) := [(224, (uk_ n)), (296, ug6_)]
theorem umn_ (n : Nat) (ih : uo_ Tryz.prog 224 ∧ FunOK Tryz.prog 224 (uk_ n)) : FsOK Tryz.prog (ugi_ n) := ⟨ih, up8_, trivial⟩
noncomputable def ude_ (n : Nat) : CSpec := ⟨⟨[0, 1, 4, 10, 11], [.own 102 ZZ3 true, .val (.int .i64), .hof false ZZ24 (.int .i64), .val (.int .i64), .val (.int .i64)]⟩, [((.exit 0), ⟨[0, 10], [.own 102 ZZ3 true, .val (.int .i64)]⟩)], ([10, 11, 12] ++ seg 31 23), (udn_ (ul_ n)), []⟩
noncomputable def udf_ (n : Nat) : CSpec := ⟨⟨[0, 10, 13], [.own 102 ZZ3 true, .val (.int .i64), .val (.int .i64)]⟩, [((.exit 2), ⟨[0], [.own 102 ZZ3 true]⟩)], ([13] ++ seg 55 22), (udo_ (ul_ n)), []⟩
noncomputable def udg_ (n : Nat) : CSpec := ⟨⟨[0, 2, 4, 14, 15], [.own 102 ZZ3 true, .val (.int .i64), .hof false ZZ24 (.int .i64), .val (.int .i64), .val (.int .i64)]⟩, [((.exit 4), ⟨[0, 14], [.own 102 ZZ3 true, .val (.int .i64)]⟩)], ([14, 15, 16] ++ seg 83 24), (udp_ (ul_ n)), []⟩
noncomputable def ucz_ (n : Nat) : CSpec := ⟨⟨[0, 14, 17], [.own 102 ZZ3 true, .val (.int .i64), .val (.int .i64)]⟩, [((.exit 6), ⟨[0], [.own 102 ZZ3 true]⟩)], ([17] ++ seg 108 21), (udc_ (ul_ n)), []⟩
noncomputable def uc0_ (n : Nat) : CSpec := ⟨⟨[1, 2, 3, 18, 19, 140], [.val (.int .i64), .val (.int .i64), .val (.int .i64), .val (.int .i64), .val (.int .i64), .val .bool]⟩, [(.normal, ⟨[20, 21], [.val (.int .i64), .val (.int .i64)]⟩)], [20, 21, 141, 142, 143, 144, 145, 146], (ubs_ (ul_ n)), []⟩
noncomputable def uc1_ (n : Nat) : CSpec := ⟨⟨[0, 4, 20, 21, 22], [.own 102 ZZ3 true, .hof false ZZ24 (.int .i64), .val (.int .i64), .val (.int .i64), .val (.int .i64)]⟩, [((.exit 8), ⟨[0, 20], [.own 102 ZZ3 true, .val (.int .i64)]⟩)], ([20, 21, 23] ++ seg 149 26), (udd_ (ul_ n)), []⟩
noncomputable def uc2_ (n : Nat) : CSpec := ⟨⟨[0, 2, 4, 20, 24, 185], [.own 102 ZZ3 true, .val (.int .i64), .hof false ZZ24 (.int .i64), .val (.int .i64), .val (.int .i64), .val .bool]⟩, [(.normal, ⟨[0], [.own 102 ZZ3 true]⟩)], [186, 187, 188, 189, 190, 191], (ubt_ (ul_ n)), []⟩
noncomputable def uc3_ (n : Nat) : CSpec := ⟨⟨[0, 1, 4, 18, 20, 199], [.own 102 ZZ3 true, .val (.int .i64), .hof false ZZ24 (.int .i64), .val (.int .i64), .val (.int .i64), .val .bool]⟩, [(.normal, ⟨[0], [.own 102 ZZ3 true]⟩)], [200, 201, 202, 203, 204, 205], (ubu_ (ul_ n)), []⟩
noncomputable def upl_ (n : Nat) : Env := mkE (ugi_ n) [(1, (ude_ n)), (4, (udf_ n)), (7, (udg_ n)), (10, (ucz_ n)), (12, (uc0_ n)), (13, (uc1_ n)), (16, (uc2_ n)), (17, (uc3_ n))] [] false
theorem ut_ (n : Nat) (ih : uo_ Tryz.prog 224 ∧ FunOK Tryz.prog 224 (uk_ n)) : EnvOK Tryz.prog false (upl_ n) := enk (umn_ n ih)
noncomputable def uc_ : Code := u5_ Tryz.f224
theorem ulj_ (n : Nat) (ih : uo_ Tryz.prog 224 ∧ FunOK Tryz.prog 224 (uk_ n)) : CutOK Tryz.prog false Tryz.f224.ntmps (ude_ n) (sub uc_ [0, 1, 0, 1, 1, 0, 0]) :=
 lok (body := sub uc_ [0, 1, 0, 1, 1, 0, 0, 0]) (n := 2) (l := []) (ut_ n ih) trivial
theorem ulk_ (n : Nat) (ih : uo_ Tryz.prog 224 ∧ FunOK Tryz.prog 224 (uk_ n)) : CutOK Tryz.prog false Tryz.f224.ntmps (udf_ n) (sub uc_ [0, 1, 0, 1, 1, 1, 0, 1, 0]) :=
 lok (body := sub uc_ [0, 1, 0, 1, 1, 1, 0, 1, 0, 0]) (n := 5) (l := []) (ut_ n ih) trivial
theorem ull_ (n : Nat) (ih : uo_ Tryz.prog 224 ∧ FunOK Tryz.prog 224 (uk_ n)) : CutOK Tryz.prog false Tryz.f224.ntmps (udg_ n) (sub uc_ [1, 0, 1, 0, 1, 1, 0, 0]) :=
 lok (body := sub uc_ [1, 0, 1, 0, 1, 1, 0, 0, 0]) (n := 8) (l := []) (ut_ n ih) trivial
theorem uk6_ (n : Nat) (ih : uo_ Tryz.prog 224 ∧ FunOK Tryz.prog 224 (uk_ n)) : CutOK Tryz.prog false Tryz.f224.ntmps (ucz_ n) (sub uc_ [1, 0, 1, 0, 1, 1, 1, 0, 1, 0]) :=
 lok (body := sub uc_ [1, 0, 1, 0, 1, 1, 1, 0, 1, 0, 0]) (n := 11) (l := []) (ut_ n ih) trivial
theorem uk7_ (n : Nat) (ih : uo_ Tryz.prog 224 ∧ FunOK Tryz.prog 224 (uk_ n)) : CutOK Tryz.prog false Tryz.f224.ntmps (uc0_ n) (sub uc_ [1, 1, 1, 1, 1, 0, 1]) :=
 brk (c := uqq_ (sub uc_ [1, 1, 1, 1, 1, 0, 1])) (x := sub uc_ [1, 1, 1, 1, 1, 0, 1, 0]) (y := sub uc_ [1, 1, 1, 1, 1, 0, 1, 1]) (n := 12) (lx := []) (ly := []) (ut_ n ih) trivial trivial
theorem uk8_ (n : Nat) (ih : uo_ Tryz.prog 224 ∧ FunOK Tryz.prog 224 (uk_ n)) : CutOK Tryz.prog false Tryz.f224.ntmps (uc1_ n) (sub uc_ [1, 1, 1, 1, 1, 1, 1, 0, 0]) :=
 lok (body := sub uc_ [1, 1, 1, 1, 1, 1, 1, 0, 0, 0]) (n := 14) (l := []) (ut_ n ih) trivial
theorem uk9_ (n : Nat) (ih : uo_ Tryz.prog 224 ∧ FunOK Tryz.prog 224 (uk_ n)) : CutOK Tryz.prog false Tryz.f224.ntmps (uc2_ n) (sub uc_ [1, 1, 1, 1, 1, 1, 1, 1, 1, 0, 1]) :=
 brk (c := uqq_ (sub uc_ [1, 1, 1, 1, 1, 1, 1, 1, 1, 0, 1])) (x := sub uc_ [1, 1, 1, 1, 1, 1, 1, 1, 1, 0, 1, 0]) (y := sub uc_ [1, 1, 1, 1, 1, 1, 1, 1, 1, 0, 1, 1]) (n := 16) (lx := []) (ly := []) (ut_ n ih) trivial trivial
theorem ula_ (n : Nat) (ih : uo_ Tryz.prog 224 ∧ FunOK Tryz.prog 224 (uk_ n)) : CutOK Tryz.prog false Tryz.f224.ntmps (uc3_ n) (sub uc_ [1, 1, 1, 1, 1, 1, 1, 1, 1, 1, 0, 1]) :=
 brk (c := uqq_ (sub uc_ [1, 1, 1, 1, 1, 1, 1, 1, 1, 1, 0, 1])) (x := sub uc_ [1, 1, 1, 1, 1, 1, 1, 1, 1, 1, 0, 1, 0]) (y := sub uc_ [1, 1, 1, 1, 1, 1, 1, 1, 1, 1, 0, 1, 1]) (n := 17) (lx := []) (ly := []) (ut_ n ih) trivial trivial
theorem um5_ (n : Nat) (ih : uo_ Tryz.prog 224 ∧ FunOK Tryz.prog 224 (uk_ n)) : uo_ Tryz.prog 224 ∧ FunOK Tryz.prog 224 (uk_ (n + 1)) :=
 fnk (c := uc_) (l := [((ude_ n), sub uc_ [0, 1, 0, 1, 1, 0, 0]), ((udf_ n), sub uc_ [0, 1, 0, 1, 1, 1, 0, 1, 0]), ((udg_ n), sub uc_ [1, 0, 1, 0, 1, 1, 0, 0]), ((ucz_ n), sub uc_ [1, 0, 1, 0, 1, 1, 1, 0, 1, 0]), ((uc0_ n), sub uc_ [1, 1, 1, 1, 1, 0, 1]), ((uc1_ n), sub uc_ [1, 1, 1, 1, 1, 1, 1, 0, 0]), ((uc2_ n), sub uc_ [1, 1, 1, 1, 1, 1, 1, 1, 1, 0, 1]), ((uc3_ n), sub uc_ [1, 1, 1, 1, 1, 1, 1, 1, 1, 1, 0, 1])]) (ut_ n ih) Tryz.func224 ⟨⟨by kernel_rfl, (ulj_ n ih)⟩, ⟨by kernel_rfl, (ulk_ n ih)⟩, ⟨by kernel_rfl, (ull_ n ih)⟩, ⟨by kernel_rfl, (uk6_ n ih)⟩, ⟨by kernel_rfl, (uk7_ n ih)⟩, ⟨by kernel_rfl, (uk8_ n ih)⟩, ⟨by kernel_rfl, (uk9_ n ih)⟩, ⟨by kernel_rfl, (ula_ n ih)⟩, trivial⟩
theorem um6_ : ∀ n, uo_ Tryz.prog 224 ∧ FunOK Tryz.prog 224 (uk_ n) := fun n => Nat.rec ⟨⟨Tryz.f224, uc_, Tryz.func224, by kernel_rfl, by kernel_rfl⟩, fun w I v args bs _ _ _ r hr => by cases hr⟩ (fun n ih => um5_ n ih) n
theorem uom_ : uo_ Tryz.prog 224 ∧ FunOK Tryz.prog 224 ugh_ := um6_ 100
noncomputable def ug8_ : FSpec := ⟨[.io 102 ZZ3, .val (.int .i64), .hof false ZZ24 (.int .i64)], [], uct_, false⟩
noncomputable def ug9_ : List (Nat × FSpec) := [(223, uew_), (224, ugh_)]
theorem un1_ : FsOK Tryz.prog ug9_ := ⟨uk4_, uom_, trivial⟩
noncomputable def udw_ : CSpec := ⟨⟨[0, 1, 2, 6, 7, 8], [.own 102 ZZ3 true, .val (.int .i64), .hof false ZZ24 (.int .i64), .val (.int .i64), .val (.int .i64), .val (.int .i64)]⟩, [((.exit 0), ⟨[0, 7], [.own 102 ZZ3 true, .val (.int .i64)]⟩)], ([7, 8] ++ seg 11 12), ud5_, []⟩
noncomputable def udx_ : CSpec := ⟨⟨[0, 1, 2, 6, 7, 8], [.own 102 ZZ3 true, .val (.int .i64), .hof false ZZ24 (.int .i64), .val (.int .i64), .val (.int .i64), .val (.int .i64)]⟩, [((.exit 4), ⟨[0, 7], [.own 102 ZZ3 true, .val (.int .i64)]⟩)], ([7, 8] ++ seg 33 16), ud6_, []⟩
noncomputable def udy_ : CSpec := ⟨⟨[0, 1, 2, 6], [.own 102 ZZ3 true, .val (.int .i64), .hof false ZZ24 (.int .i64), .val (.int .i64)]⟩, [((.exit 2), ⟨[0], [.own 102 ZZ3 true]⟩)], ([6, 7, 8, 9] ++ seg 28 35), ud7_, []⟩
noncomputable def ure_ : Env := mkE ug9_ [(0, udw_), (4, udx_), (2, udy_)] [] false
theorem ub0_ : EnvOK Tryz.prog false ure_ := enk un1_
noncomputable def uw_ : Code := u5_ Tryz.f134
theorem um7_ : CutOK Tryz.prog false Tryz.f134.ntmps udw_ (sub uw_ [1, 1, 0, 0]) :=
 lok (body := sub uw_ [1, 1, 0, 0, 0]) (n := 1) (l := []) ub0_ trivial
theorem um8_ : CutOK Tryz.prog false Tryz.f134.ntmps udx_ (sub uw_ [1, 1, 1, 1, 0, 0, 1, 0, 1, 0, 0]) :=
 lok (body := sub uw_ [1, 1, 1, 1, 0, 0, 1, 0, 1, 0, 0, 0]) (n := 5) (l := []) ub0_ trivial
theorem um9_ : CutOK Tryz.prog false Tryz.f134.ntmps udy_ (sub uw_ [1, 1, 1, 1, 0]) :=
 lok (body := sub uw_ [1, 1, 1, 1, 0, 0]) (n := 3) (l := [(udx_, sub uw_ [1, 1, 1, 1, 0, 0, 1, 0, 1, 0, 0])]) ub0_ ⟨⟨by kernel_rfl, um8_⟩, trivial⟩
theorem up9_ : uo_ Tryz.prog 134 ∧ FunOK Tryz.prog 134 ug8_ :=
 fnk (c := uw_) (l := [(udw_, sub uw_ [1, 1, 0, 0]), (udy_, sub uw_ [1, 1, 1, 1, 0])]) ub0_ Tryz.func134 ⟨⟨by kernel_rfl, um7_⟩, ⟨by kernel_rfl, um9_⟩, trivial⟩
noncomputable def ugo_ : FSpec := ⟨[.io 102 ZZ3, .hof false ZZ24 (.int .i64)], [], uck_, false⟩
noncomputable def ugp_ : List (Nat × FSpec) := [(134, ug8_)]
theorem una_ : FsOK Tryz.prog ugp_ := ⟨up9_, trivial⟩
noncomputable def uqa_ : Env := mkE ugp_ [] [] false
theorem un2_ : EnvOK Tryz.prog false uqa_ := enk una_
noncomputable def uqb_ : Code := u5_ Tryz.f76
theorem upm_ : uo_ Tryz.prog 76 ∧ FunOK Tryz.prog 76 ugo_ :=
 fnk (c := uqb_) (l := []) un2_ Tryz.func76 trivial
noncomputable def ubht_ : FSpec := ⟨[.val (.int .i64)], [.val .bool], u50_, true⟩
noncomputable def ubhu_ : List (Nat × FSpec) := []
theorem ubpn_ : FsOK Tryz.prog ubhu_ := trivial
noncomputable def ubx1_ : Env := mkE ubhu_ [] [] true
theorem ubrw_ : EnvOK Tryz.prog true ubx1_ := enk ubpn_
noncomputable def ubx2_ : Code := u5_ Tryz.f123
theorem ubwj_ : uo_ Tryz.prog 123 ∧ FunOK Tryz.prog 123 ubht_ :=
 fnk (c := ubx2_) (l := []) ubrw_ Tryz.func123 trivial
noncomputable def uxz_ : FSpec := ⟨[.val (.int .i64), .val (.int .i64)], [.val (.int .i64)], unh_, true⟩
noncomputable def u91_ : List (Nat × FSpec) := [(123, ubht_)]
theorem ubj5_ : FsOK Tryz.prog u91_ := ⟨ubwj_, trivial⟩
noncomputable def ubtz_ : Env := mkE u91_ [] [] true
theorem ubm3_ : EnvOK Tryz.prog true ubtz_ := enk ubj5_
noncomputable def ubt0_ : Code := u5_ Tryz.f71
theorem u92_ : uo_ Tryz.prog 71 ∧ FunOK Tryz.prog 71 uxz_ :=
 fnk (c := ubt0_) (l := []) ubm3_ Tryz.func71 trivial
noncomputable def ubs3_ : FSpec := ⟨[.val ZZ21], [.val (.int .i64)], uboh_, true⟩
noncomputable def ubs4_ : List (Nat × FSpec) := []
theorem ubwk_ : FsOK Tryz.prog ubs4_ := trivial
noncomputable def ubce_ : CSpec := ⟨⟨[3, 6, 7, 8], [.val (.int .i64), .val ZZ21, .val (.int .i64), .val (.int .i64)]⟩, [((.exit 0), ⟨[], []⟩), (.ret, ⟨[2], [.val (.int .i64)]⟩)], ([2, 5] ++ seg 8 9), ubf4_, []⟩
noncomputable def ub3e_ : Env := mkE ubs4_ [(0, ubce_)] [] true
theorem ublt_ : EnvOK Tryz.prog true ub3e_ := enk ubwk_
noncomputable def ubcf_ : Code := u5_ Tryz.f78
theorem ubt1_ : CutOK Tryz.prog true Tryz.f78.ntmps ubce_ (sub ubcf_ [1, 1, 0, 1, 0]) :=
 lok (body := sub ubcf_ [1, 1, 0, 1, 0, 0]) (n := 1) (l := []) ublt_ trivial
theorem ub1p_ : uo_ Tryz.prog 78 ∧ FunOK Tryz.prog 78 ubs3_ :=
 fnk (c := ubcf_) (l := [(ubce_, sub ubcf_ [1, 1, 0, 1, 0])]) ublt_ Tryz.func78 ⟨⟨by kernel_rfl, ubt1_⟩, trivial⟩
noncomputable def uzp_ : FSpec := ⟨[.val ZZ3, .val ZZ3], [.val (.int .i64)], uoc_, true⟩
noncomputable def uzq_ : List (Nat × FSpec) := [(69, uhc_), (71, uxz_), (78, ubs3_)]
theorem u93_ : FsOK Tryz.prog uzq_ := ⟨uj7_, u92_, ub1p_, trivial⟩
noncomputable def ubj6_ : Env := mkE uzq_ [] [] true
theorem ubcg_ : EnvOK Tryz.prog true ubj6_ := enk u93_
noncomputable def ubj7_ : Code := u5_ Tryz.f77
theorem ubhv_ : uo_ Tryz.prog 77 ∧ FunOK Tryz.prog 77 uzp_ :=
 fnk (c := ubj7_) (l := []) ubcg_ Tryz.func77 trivial
noncomputable def u6s_ : FSpec := ⟨[.val (.agg ZZ4)], [.val (.slice ZZ3)], uur_, false⟩
noncomputable def u6t_ : List (Nat × FSpec) := [(22, upg_), (74, ubdv_), (75, ubpl_), (76, ugo_), (77, uzp_)]
theorem ubhw_ : FsOK Tryz.prog u6t_ := ⟨uvl_, ubtv_, ubz7_, upm_, ubhv_, trivial⟩
noncomputable def us6_ : CSpec := ⟨⟨[1, 3, 8, 9, 10], [.box (.val ZZ4), .own 102 ZZ3 true, .val ZZ14, .val (.int .i64), .val (.int .i64)]⟩, [((.exit 0), ⟨[3], [.own 102 ZZ3 true]⟩)], ([3, 5, 6] ++ seg 10 37), uuq_, []⟩
noncomputable def ubrx_ : Env := mkE u6t_ [(0, us6_)] [] false
theorem u1m_ : EnvOK Tryz.prog false ubrx_ := enk ubhw_
noncomputable def uqc_ : Code := u5_ Tryz.f49
theorem ube7_ : CutOK Tryz.prog false Tryz.f49.ntmps us6_ (sub uqc_ [1, 1, 0, 1, 0]) :=
 lok (body := sub uqc_ [1, 1, 0, 1, 0, 0]) (n := 1) (l := []) u1m_ trivial
theorem ubpo_ : uo_ Tryz.prog 49 ∧ FunOK Tryz.prog 49 u6s_ :=
 fnk (c := uqc_) (l := [(us6_, sub uqc_ [1, 1, 0, 1, 0])]) u1m_ Tryz.func49 ⟨⟨by kernel_rfl, ube7_⟩, trivial⟩
noncomputable def ubdx_ : FSpec := ⟨[.val (.agg ZZ4)], [.val (.slice ZZ7)], u13_, false⟩
noncomputable def ubdy_ : List (Nat × FSpec) := [(22, upg_), (49, u6s_)]
theorem ubm4_ : FsOK Tryz.prog ubdy_ := ⟨uvl_, ubpo_, trivial⟩
noncomputable def ux0_ : CSpec := ⟨⟨[3, 4, 5, 15, 16, 17], [.own 70 ZZ7 false, .val .bool, .box (.val ZZ19), .val (.slice ZZ3), .val (.int .i64), .val (.int .i64)]⟩, [((.exit 0), ⟨[3, 4, 5], [.own 70 ZZ7 false, .val .bool, .box (.val ZZ19)]⟩)], ([3, 4, 7, 8] ++ seg 17 39), uz7_, []⟩
noncomputable def ux1_ : CSpec := ⟨⟨[3, 5, 56], [.own 70 ZZ7 false, .box (.val ZZ19), .val .bool]⟩, [(.normal, ⟨[3], [.own 70 ZZ7 false]⟩)], [3, 57, 58, 59, 60, 61], usa_, []⟩
noncomputable def ux2_ : CSpec := ⟨⟨[1, 3, 63, 64, 65], [.box (.val ZZ4), .own 70 ZZ7 false, .val (.slice .str), .val (.int .i64), .val (.int .i64)]⟩, [((.exit 3), ⟨[3], [.own 70 ZZ7 false]⟩)], ([3, 10, 11, 12, 13] ++ seg 65 20), uz8_, []⟩
noncomputable def ubwl_ : Env := mkE ubdy_ [(0, ux0_), (5, ux1_), (6, ux2_)] [] false
theorem uoj_ : EnvOK Tryz.prog false ubwl_ := enk ubm4_
noncomputable def uc4_ : Code := u5_ Tryz.f17
theorem ubj8_ : CutOK Tryz.prog false Tryz.f17.ntmps ux0_ (sub uc4_ [1, 1, 1, 1, 0, 1, 0]) :=
 lok (body := sub uc4_ [1, 1, 1, 1, 0, 1, 0, 0]) (n := 1) (l := []) uoj_ trivial
theorem ubj9_ : CutOK Tryz.prog false Tryz.f17.ntmps ux1_ (sub uc4_ [1, 1, 1, 1, 1, 0, 1]) :=
 brk (c := uqq_ (sub uc4_ [1, 1, 1, 1, 1, 0, 1])) (x := sub uc4_ [1, 1, 1, 1, 1, 0, 1, 0]) (y := sub uc4_ [1, 1, 1, 1, 1, 0, 1, 1]) (n := 5) (lx := []) (ly := []) uoj_ trivial trivial
theorem ubka_ : CutOK Tryz.prog false Tryz.f17.ntmps ux2_ (sub uc4_ [1, 1, 1, 1, 1, 1, 0, 1, 0]) :=
 lok (body := sub uc4_ [1, 1, 1, 1, 1, 1, 0, 1, 0, 0]) (n := 7) (l := []) uoj_ trivial
theorem ubt2_ : uo_ Tryz.prog 17 ∧ FunOK Tryz.prog 17 ubdx_ :=
 fnk (c := uc4_) (l := [(ux0_, sub uc4_ [1, 1, 1, 1, 0, 1, 0]), (ux1_, sub uc4_ [1, 1, 1, 1, 1, 0, 1]), (ux2_, sub uc4_ [1, 1, 1, 1, 1, 1, 0, 1, 0])]) uoj_ Tryz.func17 ⟨⟨by kernel_rfl, ubj8_⟩, ⟨by kernel_rfl, ubj9_⟩, ⟨by kernel_rfl, ubka_⟩, trivial⟩
noncomputable def u1n_ : FSpec := ⟨[.val (.int .i64), .val (.agg ZZ19)], [.val .str, .val (.int .i64)], ukn_, false⟩
noncomputable def u1o_ : List (Nat × FSpec) := [(56, uyl_), (378, uns_), (379, urb_), (385, umd_), (386, upi_), (393, unv_), (394, urc_), (402, ujm_), (403, umm_), (410, upf_), (411, us5_)]
theorem ubch_ : FsOK Tryz.prog u1o_ := ⟨u7l_, uwp_, u1j_, uvj_, uzm_, uwu_, u1l_, urw_, uvr_, uzi_, u3y_, trivial⟩
noncomputable def ubm5_ : Env := mkE u1o_ [] [] false
theorem ube8_ : EnvOK Tryz.prog false ubm5_ := enk ubch_
noncomputable def ubm6_ : Code := u5_ Tryz.f42
theorem ubkb_ : uo_ Tryz.prog 42 ∧ FunOK Tryz.prog 42 u1n_ :=
 fnk (c := ubm6_) (l := []) ube8_ Tryz.func42 trivial
noncomputable def u94_ : FSpec := ⟨[.val (.agg ZZ19), .val .str], [.val ZZ5], uyg_, true⟩
noncomputable def u95_ : List (Nat × FSpec) := []
theorem ubkc_ : FsOK Tryz.prog u95_ := trivial
noncomputable def ubt3_ : Env := mkE u95_ [] [] true
theorem ubm7_ : EnvOK Tryz.prog true ubt3_ := enk ubkc_
noncomputable def ubt4_ : Code := u5_ Tryz.f43
theorem ubry_ : uo_ Tryz.prog 43 ∧ FunOK Tryz.prog 43 u94_ :=
 fnk (c := ubt4_) (l := []) ubm7_ Tryz.func43 trivial
noncomputable def u6u_ : FSpec := ⟨[.val (.agg ZZ19), .val .str], [.val ZZ5], uus_, true⟩
noncomputable def u6v_ : List (Nat × FSpec) := []
theorem ubhx_ : FsOK Tryz.prog u6v_ := trivial
noncomputable def ubrz_ : Env := mkE u6v_ [] [] true
theorem ubkd_ : EnvOK Tryz.prog true ubrz_ := enk ubhx_
noncomputable def ubr0_ : Code := u5_ Tryz.f44
theorem ubpp_ : uo_ Tryz.prog 44 ∧ FunOK Tryz.prog 44 u6u_ :=
 fnk (c := ubr0_) (l := []) ubkd_ Tryz.func44 trivial
noncomputable def urf_ : FSpec := ⟨[.val ZZ5, .val ZZ5], [.val (.int .i64)], uev_, true⟩
noncomputable def u1p_ : List (Nat × FSpec) := [(69, uhc_), (71, uxz_)]
theorem ubci_ : FsOK Tryz.prog u1p_ := ⟨uj7_, u92_, trivial⟩
noncomputable def ubm8_ : Env := mkE u1p_ [] [] true
theorem ube9_ : EnvOK Tryz.prog true ubm8_ := enk ubci_
noncomputable def ubm9_ : Code := u5_ Tryz.f45
theorem u1q_ : uo_ Tryz.prog 45 ∧ FunOK Tryz.prog 45 urf_ :=
 fnk (c := ubm9_) (l := []) ube9_ Tryz.func45 trivial
noncomputable def u6w_ : FSpec := ⟨[.val ZZ17, .val ZZ17], [.val (.int .i64)], ufk_, true⟩
noncomputable def u6x_ : List (Nat × FSpec) := [(45, urf_)]
theorem ubhy_ : FsOK Tryz.prog u6x_ := ⟨u1q_, trivial⟩
noncomputable def ubr1_ : Env := mkE u6x_ [] [] true
theorem ubke_ : EnvOK Tryz.prog true ubr1_ := enk ubhy_
noncomputable def ubr2_ : Code := u5_ Tryz.f47
theorem ubpq_ : uo_ Tryz.prog 47 ∧ FunOK Tryz.prog 47 u6w_ :=
 fnk (c := ubr2_) (l := []) ubke_ Tryz.func47 trivial
noncomputable def uw2_ : FSpec := ⟨[.val ZZ17], [.val (.int .i64), .val (.int .i64), .val .bool], ul5_, false⟩
noncomputable def uw3_ : List (Nat × FSpec) := [(174, ucc_)]
theorem u7z_ : FsOK Tryz.prog uw3_ := ⟨ucx_, trivial⟩
noncomputable def umo_ : CSpec := ⟨⟨[1, 5, 10], [.box (.val (.prod ZZ5 ZZ5)), .val (.int .i64), .val .bool]⟩, [(.normal, ⟨[1, 5], [.box (.val (.prod ZZ5 ZZ5)), .val (.int .i64)]⟩)], ([5] ++ seg 11 12), uh2_, []⟩
noncomputable def ubhz_ : Env := mkE uw3_ [(0, umo_)] [] false
theorem utu_ : EnvOK Tryz.prog false ubhz_ := enk u7z_
noncomputable def uey_ : Code := u5_ Tryz.f132
theorem u47_ : CutOK Tryz.prog false Tryz.f132.ntmps umo_ (sub uey_ [1, 1, 0, 1]) :=
 brk (c := uqq_ (sub uey_ [1, 1, 0, 1])) (x := sub uey_ [1, 1, 0, 1, 0]) (y := sub uey_ [1, 1, 0, 1, 1]) (n := 0) (lx := []) (ly := []) utu_ trivial trivial
theorem ubfa_ : uo_ Tryz.prog 132 ∧ FunOK Tryz.prog 132 uw2_ :=
 fnk (c := uey_) (l := [(umo_, sub uey_ [1, 1, 0, 1])]) utu_ Tryz.func132 ⟨⟨by kernel_rfl, u47_⟩, trivial⟩
noncomputable def ubdz_ : FSpec := ⟨[.val (.slice ZZ17)], [.val (.slice ZZ17)], u14_, false⟩
noncomputable def ubd0_ : List (Nat × FSpec) := [(80, udz_), (132, uw2_), (133, ud0_)]
theorem ubna_ : FsOK Tryz.prog ubd0_ := ⟨ued_, ubfa_, uee_, trivial⟩
noncomputable def ux3_ : CSpec := ⟨⟨[8, 10, 27], [.val (.int .i64), .box (.val (.prod (.int .i64) (.prod .str (.prod .bool .str)))), .val .bool]⟩, [(.normal, ⟨[10], [.box (.val (.prod (.int .i64) (.prod .str (.prod .bool .str))))]⟩)], [28, 29, 30, 31, 32], usb_, []⟩
noncomputable def ux4_ : CSpec := ⟨⟨[3, 4, 11, 12, 13], [.own 94 ZZ17 true, .val (.int .i64), .val (.slice ZZ17), .val (.int .i64), .val (.int .i64)]⟩, [((.exit 0), ⟨[3], [.own 94 ZZ17 true]⟩)], ([3, 4, 6, 7, 8, 9, 10] ++ seg 13 48), uz9_, []⟩
noncomputable def ubwm_ : Env := mkE ubd0_ [(3, ux3_), (0, ux4_)] [] false
theorem uvs_ : EnvOK Tryz.prog false ubwm_ := enk ubna_
noncomputable def ufo_ : Code := u5_ Tryz.f73
theorem ubkf_ : CutOK Tryz.prog false Tryz.f73.ntmps ux3_ (sub ufo_ [1, 1, 1, 0, 1, 0, 0, 1, 1, 0, 0, 1, 1, 1, 1, 0, 1]) :=
 brk (c := uqq_ (sub ufo_ [1, 1, 1, 0, 1, 0, 0, 1, 1, 0, 0, 1, 1, 1, 1, 0, 1])) (x := sub ufo_ [1, 1, 1, 0, 1, 0, 0, 1, 1, 0, 0, 1, 1, 1, 1, 0, 1, 0]) (y := sub ufo_ [1, 1, 1, 0, 1, 0, 0, 1, 1, 0, 0, 1, 1, 1, 1, 0, 1, 1]) (n := 3) (lx := []) (ly := []) uvs_ trivial trivial
theorem ubkg_ : CutOK Tryz.prog false Tryz.f73.ntmps ux4_ (sub ufo_ [1, 1, 1, 0, 1, 0]) :=
 lok (body := sub ufo_ [1, 1, 1, 0, 1, 0, 0]) (n := 1) (l := [(ux3_, sub ufo_ [1, 1, 1, 0, 1, 0, 0, 1, 1, 0, 0, 1, 1, 1, 1, 0, 1])]) uvs_ ⟨⟨by kernel_rfl, ubkf_⟩, trivial⟩
theorem ubt5_ : uo_ Tryz.prog 73 ∧ FunOK Tryz.prog 73 ubdz_ :=
 fnk (c := ufo_) (l := [(ux4_, sub ufo_ [1, 1, 1, 0, 1, 0])]) uvs_ Tryz.func73 ⟨⟨by kernel_rfl, ubkg_⟩, trivial⟩
noncomputable def ublu_ : FSpec := ⟨[.val (.int .i64), .val (.slice ZZ17)], [.val (.agg ZZ15), .val (.int .i64)], uba5_, false⟩
noncomputable def ublv_ : List (Nat × FSpec) := [(73, ubdz_)]
theorem ubr3_ : FsOK Tryz.prog ublv_ := ⟨ubt5_, trivial⟩
noncomputable def u3z_ : CSpec := ⟨⟨[1, 11], [.val (.slice ZZ17), .val .bool]⟩, [(.normal, ⟨[1], [.val (.slice ZZ17)]⟩)], [1, 12, 13], uyh_, []⟩
noncomputable def u30_ : CSpec := ⟨⟨[8, 9, 29], [.box (.val (.prod ZZ5 ZZ5)), .box (.val (.prod (.agg ZZ19) (.agg ZZ19))), .val .bool]⟩, [(.normal, ⟨[8, 9], [.box (.val (.prod ZZ5 ZZ5)), .box (.val (.prod (.agg ZZ19) (.agg ZZ19)))]⟩)], (seg 30 9), uyi_, []⟩
noncomputable def u31_ : CSpec := ⟨⟨[6, 20, 21, 22], [.box (.pr (.val (.int .i64)) (.own 70 ZZ7 false)), .val (.slice ZZ17), .val (.int .i64), .val (.int .i64)]⟩, [((.exit 0), ⟨[6], [.box (.pr (.val (.int .i64)) (.own 70 ZZ7 false))]⟩)], ([8, 9] ++ seg 22 36), u7b_, []⟩
noncomputable def ubz8_ : Env := mkE ublv_ [(0, u3z_), (4, u30_), (2, u31_)] [19] false
theorem usg_ : EnvOK Tryz.prog false ubz8_ := enk ubr3_
noncomputable def udl_ : Code := u5_ Tryz.f48
theorem ubpr_ : CutOK Tryz.prog false Tryz.f48.ntmps u3z_ (sub udl_ [1, 0, 1]) :=
 brk (c := uqq_ (sub udl_ [1, 0, 1])) (x := sub udl_ [1, 0, 1, 0]) (y := sub udl_ [1, 0, 1, 1]) (n := 0) (lx := []) (ly := []) usg_ trivial trivial
theorem ubps_ : CutOK Tryz.prog false Tryz.f48.ntmps u30_ (sub udl_ [1, 1, 1, 1, 0, 1, 0, 0, 1, 1, 0, 0, 1, 1, 0, 1]) :=
 brk (c := uqq_ (sub udl_ [1, 1, 1, 1, 0, 1, 0, 0, 1, 1, 0, 0, 1, 1, 0, 1])) (x := sub udl_ [1, 1, 1, 1, 0, 1, 0, 0, 1, 1, 0, 0, 1, 1, 0, 1, 0]) (y := sub udl_ [1, 1, 1, 1, 0, 1, 0, 0, 1, 1, 0, 0, 1, 1, 0, 1, 1]) (n := 4) (lx := []) (ly := []) usg_ trivial trivial
theorem ubpt_ : CutOK Tryz.prog false Tryz.f48.ntmps u31_ (sub udl_ [1, 1, 1, 1, 0, 1, 0]) :=
 lok (body := sub udl_ [1, 1, 1, 1, 0, 1, 0, 0]) (n := 3) (l := [(u30_, sub udl_ [1, 1, 1, 1, 0, 1, 0, 0, 1, 1, 0, 0, 1, 1, 0, 1])]) usg_ ⟨⟨by kernel_rfl, ubps_⟩, trivial⟩
theorem ubx3_ : uo_ Tryz.prog 48 ∧ FunOK Tryz.prog 48 ublu_ :=
 fnk (c := udl_) (l := [(u3z_, sub udl_ [1, 0, 1]), (u31_, sub udl_ [1, 1, 1, 1, 0, 1, 0])]) usg_ Tryz.func48 ⟨⟨by kernel_rfl, ubpr_⟩, ⟨by kernel_rfl, ubpt_⟩, trivial⟩
noncomputable def ubh0_ : FSpec := ⟨[.val (.int .i64), .val (.slice ZZ7)], [.val (.agg ZZ15), .val (.int .i64)], u52_, false⟩
noncomputable def ubh1_ : List (Nat × FSpec) := [(42, u1n_), (43, u94_), (44, u6u_), (45, urf_), (46, ui3_), (47, u6w_), (48, ublu_)]
theorem ubpu_ : FsOK Tryz.prog ubh1_ := ⟨ubkb_, ubry_, ubpp_, u1q_, uuy_, ubpq_, ubx3_, trivial⟩
noncomputable def u0k_ : CSpec := ⟨⟨[0, 4, 6, 17, 18, 19], [.val (.int .i64), .box (.val ZZ15), .own 94 ZZ17 true, .val (.slice ZZ7), .val (.int .i64), .val (.int .i64)]⟩, [((.exit 0), ⟨[4, 6], [.box (.val ZZ15), .own 94 ZZ17 true]⟩), (.ret, ⟨[4, 5], [.box (.val ZZ15), .val (.int .i64)]⟩)], ([5, 6, 8, 9, 10, 11, 12] ++ seg 19 46), u2u_, []⟩
noncomputable def u0l_ : CSpec := ⟨⟨[13, 67, 68, 69], [.own 94 ZZ17 true, .own 94 ZZ17 true, .val (.int .i64), .val (.int .i64)]⟩, [((.exit 2), ⟨[13], [.own 94 ZZ17 true]⟩)], ([13, 15, 16] ++ seg 69 42), u2v_, []⟩
noncomputable def ubx4_ : Env := mkE ubh1_ [(0, u0k_), (5, u0l_)] [] false
theorem ux5_ : EnvOK Tryz.prog false ubx4_ := enk ubpu_
noncomputable def ujp_ : Code := u5_ Tryz.f16
theorem ubnb_ : CutOK Tryz.prog false Tryz.f16.ntmps u0k_ (sub ujp_ [1, 1, 0, 1, 0]) :=
 lok (body := sub ujp_ [1, 1, 0, 1, 0, 0]) (n := 1) (l := []) ux5_ trivial
theorem ubnc_ : CutOK Tryz.prog false Tryz.f16.ntmps u0l_ (sub ujp_ [1, 1, 1, 1, 1, 0, 1, 0]) :=
 lok (body := sub ujp_ [1, 1, 1, 1, 1, 0, 1, 0, 0]) (n := 6) (l := []) ux5_ trivial
theorem ubwn_ : uo_ Tryz.prog 16 ∧ FunOK Tryz.prog 16 ubh0_ :=
 fnk (c := ujp_) (l := [(u0k_, sub ujp_ [1, 1, 0, 1, 0]), (u0l_, sub ujp_ [1, 1, 1, 1, 1, 0, 1, 0])]) ux5_ Tryz.func16 ⟨⟨by kernel_rfl, ubnb_⟩, ⟨by kernel_rfl, ubnc_⟩, trivial⟩
noncomputable def u6y_ : FSpec := ⟨[.val (.agg ZZ4)], [.val (.agg ZZ15), .val (.int .i64)], uut_, false⟩
noncomputable def u6z_ : List (Nat × FSpec) := [(7, uto_), (16, ubh0_), (17, ubdx_)]
theorem ubh2_ : FsOK Tryz.prog u6z_ := ⟨u9r_, ubwn_, ubt2_, trivial⟩
noncomputable def ubr4_ : Env := mkE u6z_ [] [] false
theorem ubkh_ : EnvOK Tryz.prog false ubr4_ := enk ubh2_
noncomputable def ubr5_ : Code := u5_ Tryz.f5
theorem ubpv_ : uo_ Tryz.prog 5 ∧ FunOK Tryz.prog 5 u6y_ :=
 fnk (c := ubr5_) (l := []) ubkh_ Tryz.func5 trivial
noncomputable def u96_ : FSpec := ⟨[.val (.agg ZZ1)], [.val (.slice (.agg ZZ15)), .val (.int .i64)], uyj_, false⟩
noncomputable def u97_ : List (Nat × FSpec) := [(5, u6y_), (30, u0e_), (212, u2z_), (213, uuz_)]
theorem ubki_ : FsOK Tryz.prog u97_ := ⟨ubpv_, ubdh_, ubgc_, uba9_, trivial⟩
noncomputable def uvt_ : CSpec := ⟨⟨[1, 37], [.box (.val ZZ1), .val .bool]⟩, [(.normal, ⟨[1], [.box (.val ZZ1)]⟩), (.ret, ⟨[2, 3], [.val (.slice (.agg ZZ15)), .val (.int .i64)]⟩)], ([2, 3, 5, 6] ++ seg 38 9), upy_, []⟩
noncomputable def uvu_ : CSpec := ⟨⟨[7, 52, 53, 54], [.own 28 (.agg ZZ15) false, .val (.slice (.agg ZZ4)), .val (.int .i64), .val (.int .i64)]⟩, [((.exit 1), ⟨[7], [.own 28 (.agg ZZ15) false]⟩), (.ret, ⟨[2, 3], [.val (.slice (.agg ZZ15)), .val (.int .i64)]⟩)], ([2, 3, 7, 9, 10, 11] ++ seg 54 17), uxl_, []⟩
noncomputable def ubt6_ : Env := mkE u97_ [(4, uvt_), (7, uvu_)] [] false
theorem us7_ : EnvOK Tryz.prog false ubt6_ := enk ubki_
noncomputable def ueg_ : Code := u5_ Tryz.f111
theorem ubh3_ : CutOK Tryz.prog false Tryz.f111.ntmps uvt_ (sub ueg_ [1, 1, 1, 1, 0, 1]) :=
 brk (c := uqq_ (sub ueg_ [1, 1, 1, 1, 0, 1])) (x := sub ueg_ [1, 1, 1, 1, 0, 1, 0]) (y := sub ueg_ [1, 1, 1, 1, 0, 1, 1]) (n := 4) (lx := []) (ly := []) us7_ trivial trivial
theorem ubh4_ : CutOK Tryz.prog false Tryz.f111.ntmps uvu_ (sub ueg_ [1, 1, 1, 1, 1, 1, 1, 0, 1, 0]) :=
 lok (body := sub ueg_ [1, 1, 1, 1, 1, 1, 1, 0, 1, 0, 0]) (n := 8) (l := []) us7_ trivial
theorem ubr6_ : uo_ Tryz.prog 111 ∧ FunOK Tryz.prog 111 u96_ :=
 fnk (c := ueg_) (l := [(uvt_, sub ueg_ [1, 1, 1, 1, 0, 1]), (uvu_, sub ueg_ [1, 1, 1, 1, 1, 1, 1, 0, 1, 0])]) us7_ Tryz.func111 ⟨⟨by kernel_rfl, ubh3_⟩, ⟨by kernel_rfl, ubh4_⟩, trivial⟩
noncomputable def ush_ : FSpec := ⟨[.val (.agg ZZ1)], [.val (.int .i64)], uiz_, false⟩
noncomputable def ubd1_ : List (Nat × FSpec) := [(111, u96_)]
theorem ubnd_ : FsOK Tryz.prog ubd1_ := ⟨ubr6_, trivial⟩
noncomputable def ubwo_ : Env := mkE ubd1_ [] [] false
theorem ubpw_ : EnvOK Tryz.prog false ubwo_ := enk ubnd_
noncomputable def ubwp_ : Code := u5_ Tryz.f64
theorem u0m_ : uo_ Tryz.prog 64 ∧ FunOK Tryz.prog 64 ush_ :=
 fnk (c := ubwp_) (l := []) ubpw_ Tryz.func64 trivial
noncomputable def urg_ : FSpec := ⟨[.val (.agg ZZ10)], [.val (.int .i64)], uko_, false⟩
noncomputable def u1r_ : List (Nat × FSpec) := [(64, ush_)]
theorem ubcj_ : FsOK Tryz.prog u1r_ := ⟨u0m_, trivial⟩
noncomputable def upn_ : CSpec := ⟨⟨[1, 29, 30, 31], [.box (.val ZZ10), .val ZZ22, .val (.int .i64), .val (.int .i64)]⟩, [((.exit 1), ⟨[], []⟩), (.ret, ⟨[2], [.val (.int .i64)]⟩)], ([2, 3, 4, 5] ++ seg 31 43), uqu_, []⟩
noncomputable def ubne_ : Env := mkE u1r_ [(3, upn_)] [] false
theorem uw4_ : EnvOK Tryz.prog false ubne_ := enk ubcj_
noncomputable def ump_ : Code := u5_ Tryz.f32
theorem u98_ : CutOK Tryz.prog false Tryz.f32.ntmps upn_ (sub ump_ [1, 1, 0, 1, 0]) :=
 lok (body := sub ump_ [1, 1, 0, 1, 0, 0]) (n := 4) (l := []) uw4_ trivial
theorem u1s_ : uo_ Tryz.prog 32 ∧ FunOK Tryz.prog 32 urg_ :=
 fnk (c := ump_) (l := [(upn_, sub ump_ [1, 1, 0, 1, 0])]) uw4_ Tryz.func32 ⟨⟨by kernel_rfl, u98_⟩, trivial⟩
noncomputable def uzr_ : FSpec := ⟨[.val (.agg ZZ10), .val (.agg ZZ12)], [.val (.int .i64)], uod_, false⟩
noncomputable def uzs_ : List (Nat × FSpec) := [(64, ush_)]
theorem u99_ : FsOK Tryz.prog uzs_ := ⟨u0m_, trivial⟩
noncomputable def un3_ : CSpec := ⟨⟨[3, 5, 33, 34, 35], [.box (.val ZZ12), .omap .str .bool, .val ZZ22, .val (.int .i64), .val (.int .i64)]⟩, [((.exit 1), ⟨[3, 5], [.box (.val ZZ12), .omap .str .bool]⟩), (.ret, ⟨[4], [.val (.int .i64)]⟩)], ([4, 6, 7, 8] ++ seg 35 28), uoz_, []⟩
noncomputable def un4_ : CSpec := ⟨⟨[9, 65, 66, 67], [.omap .str .bool, .val ZZ22, .val (.int .i64), .val (.int .i64)]⟩, [((.exit 3), ⟨[9], [.omap .str .bool]⟩)], ([11] ++ seg 67 8), uo0_, []⟩
noncomputable def un5_ : CSpec := ⟨⟨[3, 5, 9, 76, 77, 78], [.box (.val ZZ12), .omap .str .bool, .omap .str .bool, .val (.slice .str), .val (.int .i64), .val (.int .i64)]⟩, [((.exit 5), ⟨[], []⟩), (.ret, ⟨[4], [.val (.int .i64)]⟩)], ([4, 12, 13] ++ seg 78 28), ui0_, []⟩
noncomputable def ubkj_ : Env := mkE uzs_ [(2, un3_), (6, un4_), (8, un5_)] [] false
theorem uhi_ : EnvOK Tryz.prog false ubkj_ := enk u99_
noncomputable def uby_ : Code := u5_ Tryz.f33
theorem u70_ : CutOK Tryz.prog false Tryz.f33.ntmps un3_ (sub uby_ [1, 1, 1, 0, 1, 0]) :=
 lok (body := sub uby_ [1, 1, 1, 0, 1, 0, 0]) (n := 3) (l := []) uhi_ trivial
theorem u71_ : CutOK Tryz.prog false Tryz.f33.ntmps un4_ (sub uby_ [1, 1, 1, 1, 1, 0, 1, 0]) :=
 lok (body := sub uby_ [1, 1, 1, 1, 1, 0, 1, 0, 0]) (n := 7) (l := []) uhi_ trivial
theorem u72_ : CutOK Tryz.prog false Tryz.f33.ntmps un5_ (sub uby_ [1, 1, 1, 1, 1, 1, 0, 1, 0]) :=
 lok (body := sub uby_ [1, 1, 1, 1, 1, 1, 0, 1, 0, 0]) (n := 9) (l := []) uhi_ trivial
theorem ubh5_ : uo_ Tryz.prog 33 ∧ FunOK Tryz.prog 33 uzr_ :=
 fnk (c := uby_) (l := [(un3_, sub uby_ [1, 1, 1, 0, 1, 0]), (un4_, sub uby_ [1, 1, 1, 1, 1, 0, 1, 0]), (un5_, sub uby_ [1, 1, 1, 1, 1, 1, 0, 1, 0])]) uhi_ Tryz.func33 ⟨⟨by kernel_rfl, u70_⟩, ⟨by kernel_rfl, u71_⟩, ⟨by kernel_rfl, u72_⟩, trivial⟩
noncomputable def ubck_ : FSpec := ⟨[.nilS], [.val (.slice .str)], ubi2_, true⟩
noncomputable def uvv_ : List (Nat × FSpec) := []
theorem u48_ : FsOK Tryz.prog uvv_ := trivial
noncomputable def ubfb_ : Env := mkE uvv_ [] [] true
theorem u73_ : EnvOK Tryz.prog true ubfb_ := enk u48_
noncomputable def ubfc_ : Code := u5_ Tryz.f65
theorem ubcl_ : uo_ Tryz.prog 65 ∧ FunOK Tryz.prog 65 ubck_ :=
 fnk (c := ubfc_) (l := []) u73_ Tryz.func65 trivial
noncomputable def ubcm_ : FSpec := ⟨[.nns .str], [.val (.slice .str)], uqv_, true⟩
noncomputable def uvw_ : List (Nat × FSpec) := []
theorem u49_ : FsOK Tryz.prog uvw_ := trivial
noncomputable def ubfd_ : Env := mkE uvw_ [] [] true
theorem u74_ : EnvOK Tryz.prog true ubfd_ := enk u49_
noncomputable def ubfe_ : Code := u5_ Tryz.f65
theorem ubcn_ : uo_ Tryz.prog 65 ∧ FunOK Tryz.prog 65 ubcm_ :=
 fnk (c := ubfe_) (l := []) u74_ Tryz.func65 trivial
noncomputable def uzt_ : FSpec := ⟨[.val (.slice .str)], [.val (.slice .str)], ugz_, true⟩
theorem ubh6_ : uo_ Tryz.prog 65 ∧ FunOK Tryz.prog 65 uzt_ := ub4h_ ubcl_ ubcn_ (by kernel_rfl) (fun _ => rfl)
noncomputable def u5a_ : FSpec := ⟨[.nilS], [.val ZZ14], uba6_, true⟩
noncomputable def uql_ : List (Nat × FSpec) := []
theorem u0n_ : FsOK Tryz.prog uql_ := trivial
noncomputable def u75_ : Env := mkE uql_ [] [] true
theorem u2d_ : EnvOK Tryz.prog true u75_ := enk u0n_
noncomputable def u76_ : Code := u5_ Tryz.f66
theorem u5b_ : uo_ Tryz.prog 66 ∧ FunOK Tryz.prog 66 u5a_ :=
 fnk (c := u76_) (l := []) u2d_ Tryz.func66 trivial
noncomputable def u5c_ : FSpec := ⟨[.nns (.agg (.prod (.int .i64) .str))], [.val ZZ14], ul6_, true⟩
noncomputable def uqm_ : List (Nat × FSpec) := []
theorem u0o_ : FsOK Tryz.prog uqm_ := trivial
noncomputable def u77_ : Env := mkE uqm_ [] [] true
theorem u2e_ : EnvOK Tryz.prog true u77_ := enk u0o_
noncomputable def u78_ : Code := u5_ Tryz.f66
theorem u5d_ : uo_ Tryz.prog 66 ∧ FunOK Tryz.prog 66 u5c_ :=
 fnk (c := u78_) (l := []) u2e_ Tryz.func66 trivial
noncomputable def utv_ : FSpec := ⟨[.val ZZ14], [.val ZZ14], ui1_, true⟩
theorem ubaa_ : uo_ Tryz.prog 66 ∧ FunOK Tryz.prog 66 utv_ := ub4h_ u5b_ u5d_ (by kernel_rfl) (fun _ => rfl)
noncomputable def uqd_ : FSpec := ⟨[.val (.agg ZZ1)], [.val (.agg ZZ1)], ujk_, true⟩
noncomputable def ubab_ : List (Nat × FSpec) := [(65, uzt_), (66, utv_)]
theorem ubkk_ : FsOK Tryz.prog ubab_ := ⟨ubh6_, ubaa_, trivial⟩
noncomputable def uvx_ : CSpec := ⟨⟨[3, 11, 12, 13], [.own 25 (.agg ZZ4) false, .val (.slice (.agg ZZ4)), .val (.int .i64), .val (.int .i64)]⟩, [((.exit 0), ⟨[3], [.own 25 (.agg ZZ4) false]⟩)], ([3, 5] ++ seg 13 21), uxm_, []⟩
noncomputable def ubt7_ : Env := mkE ubab_ [(0, uvx_)] [] true
theorem u32_ : EnvOK Tryz.prog true ubt7_ := enk ubkk_
noncomputable def usi_ : Code := u5_ Tryz.f34
theorem ubh7_ : CutOK Tryz.prog true Tryz.f34.ntmps uvx_ (sub usi_ [1, 1, 1, 0, 1, 0]) :=
 lok (body := sub usi_ [1, 1, 1, 0, 1, 0, 0]) (n := 1) (l := []) u32_ trivial
theorem ux6_ : uo_ Tryz.prog 34 ∧ FunOK Tryz.prog 34 uqd_ :=
 fnk (c := usi_) (l := [(uvx_, sub usi_ [1, 1, 1, 0, 1, 0])]) u32_ Tryz.func34 ⟨⟨by kernel_rfl, ubh7_⟩, trivial⟩
noncomputable def u33_ : FSpec := ⟨[.val (.agg ZZ1), .val (.agg ZZ1)], [.val (.int .i64)], u53_, true⟩
noncomputable def ubh8_ : List (Nat × FSpec) := [(69, uhc_)]
theorem ubpx_ : FsOK Tryz.prog ubh8_ := ⟨uj7_, trivial⟩
noncomputable def ubx5_ : Env := mkE ubh8_ [] [] true
theorem ubr7_ : EnvOK Tryz.prog true ubx5_ := enk ubpx_
noncomputable def ubx6_ : Code := u5_ Tryz.f37
theorem ubh9_ : uo_ Tryz.prog 37 ∧ FunOK Tryz.prog 37 u33_ :=
 fnk (c := ubx6_) (l := []) ubr7_ Tryz.func37 trivial
noncomputable def u34_ : FSpec := ⟨[.val ZZ20, .val ZZ20], [.val (.int .i64)], um0_, true⟩
noncomputable def u35_ : List (Nat × FSpec) := [(37, u33_)]
theorem ubff_ : FsOK Tryz.prog u35_ := ⟨ubh9_, trivial⟩
noncomputable def ubpy_ : Env := mkE u35_ [] [] true
theorem ubia_ : EnvOK Tryz.prog true ubpy_ := enk ubff_
noncomputable def ubpz_ : Code := u5_ Tryz.f36
theorem ubnf_ : uo_ Tryz.prog 36 ∧ FunOK Tryz.prog 36 u34_ :=
 fnk (c := ubpz_) (l := []) ubia_ Tryz.func36 trivial
noncomputable def ubd2_ : FSpec := ⟨[.val (.agg ZZ10), .val (.agg ZZ12)], [.val (.agg ZZ10), .val (.int .i64)], ul7_, false⟩
noncomputable def ubd3_ : List (Nat × FSpec) := [(32, urg_), (33, uzr_), (34, uqd_), (35, ujt_), (36, u34_)]
theorem ubng_ : FsOK Tryz.prog ubd3_ := ⟨u1s_, ubh5_, ux6_, uv6_, ubnf_, trivial⟩
noncomputable def ux7_ : CSpec := ⟨⟨[8, 34, 35, 36], [.omap .str .bool, .val (.slice .str), .val (.int .i64), .val (.int .i64)]⟩, [((.exit 0), ⟨[8], [.omap .str .bool]⟩)], [10, 36, 37, 38, 39, 40, 41, 42], usc_, []⟩
noncomputable def ux8_ : CSpec := ⟨⟨[3, 8, 11, 44, 45, 46], [.box (.val ZZ12), .omap .str .bool, .own 80 ZZ20 true, .val ZZ22, .val (.int .i64), .val (.int .i64)]⟩, [((.exit 2), ⟨[3, 8, 11], [.box (.val ZZ12), .omap .str .bool, .own 80 ZZ20 true]⟩)], ([11, 13] ++ seg 46 16), u0a_, []⟩
noncomputable def ux9_ : CSpec := ⟨⟨[2, 8, 11, 63, 64, 65], [.box (.val ZZ10), .omap .str .bool, .own 80 ZZ20 true, .val ZZ22, .val (.int .i64), .val (.int .i64)]⟩, [((.exit 4), ⟨[11], [.own 80 ZZ20 true]⟩)], ([11, 14, 15] ++ seg 65 22), u0b_, []⟩
noncomputable def uvy_ : CSpec := ⟨⟨[16, 96, 97, 98], [.box (.pr (.val (.int .i64)) (.pr (.own 50 (.agg ZZ1) true) (.own 3 (.int .i64) true))), .own 80 ZZ20 true, .val (.int .i64), .val (.int .i64)]⟩, [((.exit 6), ⟨[16], [.box (.pr (.val (.int .i64)) (.pr (.own 50 (.agg ZZ1) true) (.own 3 (.int .i64) true)))]⟩)], ([18] ++ seg 98 19), uxn_, []⟩
noncomputable def ubwq_ : Env := mkE ubd3_ [(2, ux7_), (4, ux8_), (6, ux9_), (10, uvy_)] [95] false
theorem uje_ : EnvOK Tryz.prog false ubwq_ := enk ubng_
noncomputable def uch_ : Code := u5_ Tryz.f11
theorem ubkl_ : CutOK Tryz.prog false Tryz.f11.ntmps ux7_ (sub uch_ [1, 1, 1, 1, 0, 1, 0]) :=
 lok (body := sub uch_ [1, 1, 1, 1, 0, 1, 0, 0]) (n := 3) (l := []) uje_ trivial
theorem ubkm_ : CutOK Tryz.prog false Tryz.f11.ntmps ux8_ (sub uch_ [1, 1, 1, 1, 1, 1, 0, 1, 0]) :=
 lok (body := sub uch_ [1, 1, 1, 1, 1, 1, 0, 1, 0, 0]) (n := 5) (l := []) uje_ trivial
theorem ubkn_ : CutOK Tryz.prog false Tryz.f11.ntmps ux9_ (sub uch_ [1, 1, 1, 1, 1, 1, 1, 0, 1, 0]) :=
 lok (body := sub uch_ [1, 1, 1, 1, 1, 1, 1, 0, 1, 0, 0]) (n := 7) (l := []) uje_ trivial
theorem ubib_ : CutOK Tryz.prog false Tryz.f11.ntmps uvy_ (sub uch_ [1, 1, 1, 1, 1, 1, 1, 1, 1, 1, 1, 0, 1, 0]) :=
 lok (body := sub uch_ [1, 1, 1, 1, 1, 1, 1, 1, 1, 1, 1, 0, 1, 0, 0]) (n := 11) (l := []) uje_ trivial
theorem ubt8_ : uo_ Tryz.prog 11 ∧ FunOK Tryz.prog 11 ubd2_ :=
 fnk (c := uch_) (l := [(ux7_, sub uch_ [1, 1, 1, 1, 0, 1, 0]), (ux8_, sub uch_ [1, 1, 1, 1, 1, 1, 0, 1, 0]), (ux9_, sub uch_ [1, 1, 1, 1, 1, 1, 1, 0, 1, 0]), (uvy_, sub uch_ [1, 1, 1, 1, 1, 1, 1, 1, 1, 1, 1, 0, 1, 0])]) uje_ Tryz.func11 ⟨⟨by kernel_rfl, ubkl_⟩, ⟨by kernel_rfl, ubkm_⟩, ⟨by kernel_rfl, ubkn_⟩, ⟨by kernel_rfl, ubib_⟩, trivial⟩
noncomputable def u1t_ : FSpec := ⟨[.val ZZ22], [.val (.int .i64)], u8x_, false⟩
noncomputable def u1u_ : List (Nat × FSpec) := [(64, ush_)]
theorem ubco_ : FsOK Tryz.prog u1u_ := ⟨u0m_, trivial⟩
noncomputable def upo_ : CSpec := ⟨⟨[9, 10, 11], [.val ZZ22, .val (.int .i64), .val (.int .i64)]⟩, [((.exit 0), ⟨[], []⟩), (.ret, ⟨[2], [.val (.int .i64)]⟩)], ([2, 4, 5] ++ seg 11 10), u00_, []⟩
noncomputable def ubnh_ : Env := mkE u1u_ [(1, upo_)] [] false
theorem uw5_ : EnvOK Tryz.prog false ubnh_ := enk ubco_
noncomputable def umq_ : Code := u5_ Tryz.f62
theorem ubac_ : CutOK Tryz.prog false Tryz.f62.ntmps upo_ (sub umq_ [1, 1, 0, 1, 0]) :=
 lok (body := sub umq_ [1, 1, 0, 1, 0, 0]) (n := 2) (l := []) uw5_ trivial
theorem ubko_ : uo_ Tryz.prog 62 ∧ FunOK Tryz.prog 62 u1t_ :=
 fnk (c := umq_) (l := [(upo_, sub umq_ [1, 1, 0, 1, 0])]) uw5_ Tryz.func62 ⟨⟨by kernel_rfl, ubac_⟩, trivial⟩
noncomputable def ublw_ : FSpec := ⟨[.val ZZ22], [.val (.agg ZZ10), .val (.int .i64)], ubvi_, false⟩
noncomputable def ublx_ : List (Nat × FSpec) := [(34, uqd_), (37, u33_), (62, u1t_), (63, ulq_)]
theorem ubr8_ : FsOK Tryz.prog ublx_ := ⟨ux6_, ubh9_, ubko_, uy0_, trivial⟩
noncomputable def u36_ : CSpec := ⟨⟨[5, 15, 16, 17], [.box (.pr (.val (.int .i64)) (.pr (.own 50 (.agg ZZ1) true) (.own 3 (.int .i64) true))), .val ZZ22, .val (.int .i64), .val (.int .i64)]⟩, [((.exit 0), ⟨[5], [.box (.pr (.val (.int .i64)) (.pr (.own 50 (.agg ZZ1) true) (.own 3 (.int .i64) true)))]⟩)], ([7] ++ seg 17 17), ublc_, []⟩
noncomputable def u37_ : CSpec := ⟨⟨[2, 5, 8], [.box (.val ZZ10), .box (.pr (.val (.int .i64)) (.pr (.own 50 (.agg ZZ1) true) (.own 3 (.int .i64) true))), .val (.int .i64)]⟩, [((.exit 2), ⟨[2, 5], [.box (.val ZZ10), .box (.pr (.val (.int .i64)) (.pr (.own 50 (.agg ZZ1) true) (.own 3 (.int .i64) true)))]⟩), (.ret, ⟨[2, 3], [.box (.val ZZ10), .val (.int .i64)]⟩)], ([3, 8] ++ seg 37 22), ubld_, []⟩
noncomputable def ubz9_ : Env := mkE ublx_ [(1, u36_), (3, u37_)] [] false
theorem u0p_ : EnvOK Tryz.prog false ubz9_ := enk ubr8_
noncomputable def umr_ : Code := u5_ Tryz.f31
theorem ubp0_ : CutOK Tryz.prog false Tryz.f31.ntmps u36_ (sub umr_ [1, 1, 1, 0, 1, 0]) :=
 lok (body := sub umr_ [1, 1, 1, 0, 1, 0, 0]) (n := 2) (l := []) u0p_ trivial
theorem ubp1_ : CutOK Tryz.prog false Tryz.f31.ntmps u37_ (sub umr_ [1, 1, 1, 1, 1, 0, 1, 0]) :=
 lok (body := sub umr_ [1, 1, 1, 1, 1, 0, 1, 0, 0]) (n := 4) (l := []) u0p_ trivial
theorem ubx7_ : uo_ Tryz.prog 31 ∧ FunOK Tryz.prog 31 ublw_ :=
 fnk (c := umr_) (l := [(u36_, sub umr_ [1, 1, 1, 0, 1, 0]), (u37_, sub umr_ [1, 1, 1, 1, 1, 0, 1, 0])]) u0p_ Tryz.func31 ⟨⟨by kernel_rfl, ubp0_⟩, ⟨by kernel_rfl, ubp1_⟩, trivial⟩
noncomputable def ub1q_ : FSpec := ⟨[], [.val .bool], ub1d_, false⟩
noncomputable def ub1r_ : List (Nat × FSpec) := [(30, u0e_), (31, ublw_)]
theorem ub1s_ : FsOK Tryz.prog ub1r_ := ⟨ubdh_, ubx7_, trivial⟩
noncomputable def ub9d_ : Env := mkE ub1r_ [] [] false
theorem ub3f_ : EnvOK Tryz.prog false ub9d_ := enk ub1s_
noncomputable def ub9e_ : Code := u5_ Tryz.f10
theorem ub7s_ : uo_ Tryz.prog 10 ∧ FunOK Tryz.prog 10 ub1q_ :=
 fnk (c := ub9e_) (l := []) ub3f_ Tryz.func10 trivial
noncomputable def ubd4_ : FSpec := ⟨[.val (.agg ZZ10), .val (.int .i64)], [.val (.agg ZZ12), .val (.int .i64)], uuu_, false⟩
noncomputable def ubd5_ : List (Nat × FSpec) := [(32, urg_), (34, uqd_)]
theorem ubni_ : FsOK Tryz.prog ubd5_ := ⟨u1s_, ux6_, trivial⟩
noncomputable def uya_ : CSpec := ⟨⟨[1, 2, 7, 30, 31, 32], [.val (.int .i64), .box (.val ZZ10), .box (.pr (.val (.int .i64)) (.pr (.val (.int .i64)) (.pr (.own 50 (.agg ZZ1) false) (.own 9 .str false)))), .val ZZ22, .val (.int .i64), .val (.int .i64)]⟩, [((.exit 0), ⟨[7], [.box (.pr (.val (.int .i64)) (.pr (.val (.int .i64)) (.pr (.own 50 (.agg ZZ1) false) (.own 9 .str false))))]⟩)], ([8, 9] ++ seg 32 20), u0c_, []⟩
noncomputable def ubwr_ : Env := mkE ubd5_ [(2, uya_)] [28] false
theorem u60_ : EnvOK Tryz.prog false ubwr_ := enk ubni_
noncomputable def uvz_ : Code := u5_ Tryz.f12
theorem ubkp_ : CutOK Tryz.prog false Tryz.f12.ntmps uya_ (sub uvz_ [1, 1, 1, 1, 0, 1, 0]) :=
 lok (body := sub uvz_ [1, 1, 1, 1, 0, 1, 0, 0]) (n := 3) (l := []) u60_ trivial
theorem ubt9_ : uo_ Tryz.prog 12 ∧ FunOK Tryz.prog 12 ubd4_ :=
 fnk (c := uvz_) (l := [(uya_, sub uvz_ [1, 1, 1, 1, 0, 1, 0])]) u60_ Tryz.func12 ⟨⟨by kernel_rfl, ubkp_⟩, trivial⟩
noncomputable def uco_ : FSpec := ⟨[.val ZZ22, .val ZZ22, .hof false (.prod (.agg ZZ1) (.agg ZZ1)) .bool], [.val .bool], ubg_, false⟩
noncomputable def ue9_ : List (Nat × FSpec) := []
theorem ujq_ : FsOK Tryz.prog ue9_ := trivial
noncomputable def uci_ : CSpec := ⟨⟨[1, 2, 15, 16, 17], [.val ZZ22, .hof false (.prod (.agg ZZ1) (.agg ZZ1)) .bool, .val ZZ22, .val (.int .i64), .val (.int .i64)]⟩, [((.exit 0), ⟨[], []⟩), (.ret, ⟨[6], [.val .bool]⟩)], ([6, 7, 8, 9] ++ seg 17 15), ucm_, []⟩
noncomputable def ums_ : Env := mkE ue9_ [(1, uci_)] [] false
theorem ueh_ : EnvOK Tryz.prog false ums_ := enk ujq_
noncomputable def ubn_ : Code := u5_ Tryz.f14
theorem ujf_ : CutOK Tryz.prog false Tryz.f14.ntmps uci_ (sub ubn_ [1, 1, 0, 1, 0]) :=
 lok (body := sub ubn_ [1, 1, 0, 1, 0, 0]) (n := 2) (l := []) ueh_ trivial
theorem ufa_ : uo_ Tryz.prog 14 ∧ FunOK Tryz.prog 14 uco_ :=
 fnk (c := ubn_) (l := [(uci_, sub ubn_ [1, 1, 0, 1, 0])]) ueh_ Tryz.func14 ⟨⟨by kernel_rfl, ujf_⟩, trivial⟩
noncomputable def upp_ : FSpec := ⟨[.val (.slice .str), .val (.slice .str)], [.val .bool], ug0_, true⟩
noncomputable def uzu_ : List (Nat × FSpec) := []
theorem ubad_ : FsOK Tryz.prog uzu_ := trivial
noncomputable def un6_ : CSpec := ⟨⟨[0, 1, 12, 13], [.val (.slice .str), .val (.slice .str), .val (.int .i64), .val (.int .i64)]⟩, [((.exit 0), ⟨[], []⟩), (.ret, ⟨[4], [.val .bool]⟩)], ([4, 5] ++ seg 13 13), uo1_, []⟩
noncomputable def ubkq_ : Env := mkE uzu_ [(1, un6_)] [] true
theorem uv0_ : EnvOK Tryz.prog true ubkq_ := enk ubad_
noncomputable def ukd_ : Code := u5_ Tryz.f39
theorem u79_ : CutOK Tryz.prog true Tryz.f39.ntmps un6_ (sub ukd_ [1, 1, 0, 1, 0]) :=
 lok (body := sub ukd_ [1, 1, 0, 1, 0, 0]) (n := 2) (l := []) uv0_ trivial
theorem uzv_ : uo_ Tryz.prog 39 ∧ FunOK Tryz.prog 39 upp_ :=
 fnk (c := ukd_) (l := [(un6_, sub ukd_ [1, 1, 0, 1, 0])]) uv0_ Tryz.func39 ⟨⟨by kernel_rfl, u79_⟩, trivial⟩
noncomputable def ufb_ : FSpec := ⟨[.val (.slice (.agg ZZ4)), .val (.slice (.agg ZZ4)), .hof false (.prod (.agg ZZ4) (.agg ZZ4)) .bool], [.val .bool], ubv_, false⟩
noncomputable def ufc_ : List (Nat × FSpec) := []
theorem ujr_ : FsOK Tryz.prog ufc_ := trivial
noncomputable def ucj_ : CSpec := ⟨⟨[1, 2, 15, 16, 17], [.val (.slice (.agg ZZ4)), .hof false (.prod (.agg ZZ4) (.agg ZZ4)) .bool, .val (.slice (.agg ZZ4)), .val (.int .i64), .val (.int .i64)]⟩, [((.exit 0), ⟨[], []⟩), (.ret, ⟨[6], [.val .bool]⟩)], ([6, 7, 8, 9] ++ seg 17 15), ucn_, []⟩
noncomputable def umt_ : Env := mkE ufc_ [(1, ucj_)] [] false
theorem uei_ : EnvOK Tryz.prog false umt_ := enk ujr_
noncomputable def ubo_ : Code := u5_ Tryz.f40
theorem ujg_ : CutOK Tryz.prog false Tryz.f40.ntmps ucj_ (sub ubo_ [1, 1, 0, 1, 0]) :=
 lok (body := sub ubo_ [1, 1, 0, 1, 0, 0]) (n := 2) (l := []) uei_ trivial
theorem ulm_ : uo_ Tryz.prog 40 ∧ FunOK Tryz.prog 40 ufb_ :=
 fnk (c := ubo_) (l := [(ucj_, sub ubo_ [1, 1, 0, 1, 0])]) uei_ Tryz.func40 ⟨⟨by kernel_rfl, ujg_⟩, trivial⟩
noncomputable def utw_ : FSpec := ⟨[.val ZZ14, .val ZZ14], [.val .bool], ui2_, true⟩
noncomputable def utx_ : List (Nat × FSpec) := []
theorem u38_ : FsOK Tryz.prog utx_ := trivial
noncomputable def ujs_ : CSpec := ⟨⟨[0, 1, 12, 13], [.val ZZ14, .val ZZ14, .val (.int .i64), .val (.int .i64)]⟩, [((.exit 0), ⟨[], []⟩), (.ret, ⟨[4], [.val .bool]⟩)], ([4, 5] ++ seg 13 13), ukp_, []⟩
noncomputable def ubcp_ : Env := mkE utx_ [(1, ujs_)] [] true
theorem uqn_ : EnvOK Tryz.prog true ubcp_ := enk u38_
noncomputable def uhj_ : Code := u5_ Tryz.f70
theorem u2f_ : CutOK Tryz.prog true Tryz.f70.ntmps ujs_ (sub uhj_ [1, 1, 0, 1, 0]) :=
 lok (body := sub uhj_ [1, 1, 0, 1, 0, 0]) (n := 2) (l := []) uqn_ trivial
theorem ubae_ : uo_ Tryz.prog 70 ∧ FunOK Tryz.prog 70 utw_ :=
 fnk (c := uhj_) (l := [(ujs_, sub uhj_ [1, 1, 0, 1, 0])]) uqn_ Tryz.func70 ⟨⟨by kernel_rfl, u2f_⟩, trivial⟩
noncomputable def ubaf_ : FSpec := ⟨[.val (.agg ZZ4), .val (.agg ZZ4)], [.val .bool], ujl_, true⟩
noncomputable def ubag_ : List (Nat × FSpec) := [(39, upp_), (70, utw_)]
theorem ubkr_ : FsOK Tryz.prog ubag_ := ⟨uzv_, ubae_, trivial⟩
noncomputable def ubua_ : Env := mkE ubag_ [] [] true
theorem ubnj_ : EnvOK Tryz.prog true ubua_ := enk ubkr_
noncomputable def ubub_ : Code := u5_ Tryz.f41
theorem ubr9_ : uo_ Tryz.prog 41 ∧ FunOK Tryz.prog 41 ubaf_ :=
 fnk (c := ubub_) (l := []) ubnj_ Tryz.func41 trivial
noncomputable def ubws_ : FSpec := ⟨[.val (.agg ZZ1), .val (.agg ZZ1)], [.val .bool], ubst_, false⟩
noncomputable def ub1t_ : List (Nat × FSpec) := [(39, upp_), (40, ufb_), (41, ubaf_)]
theorem ub1u_ : FsOK Tryz.prog ub1t_ := ⟨uzv_, ulm_, ubr9_, trivial⟩
noncomputable def ub9f_ : Env := mkE ub1t_ [] [] false
theorem ub3g_ : EnvOK Tryz.prog false ub9f_ := enk ub1u_
noncomputable def ub9g_ : Code := u5_ Tryz.f15
theorem ub1v_ : uo_ Tryz.prog 15 ∧ FunOK Tryz.prog 15 ubws_ :=
 fnk (c := ub9g_) (l := []) ub3g_ Tryz.func15 trivial
noncomputable def u61_ : FSpec := ⟨[.val ZZ21, .val ZZ21], [.val .bool], uuw_, true⟩
noncomputable def u62_ : List (Nat × FSpec) := []
theorem ubic_ : FsOK Tryz.prog u62_ := trivial
noncomputable def us8_ : CSpec := ⟨⟨[0, 1, 12, 13], [.val ZZ21, .val ZZ21, .val (.int .i64), .val (.int .i64)]⟩, [((.exit 0), ⟨[], []⟩), (.ret, ⟨[4], [.val .bool]⟩)], ([4, 5] ++ seg 13 13), uuv_, []⟩
noncomputable def ubsa_ : Env := mkE u62_ [(1, us8_)] [] true
theorem u1v_ : EnvOK Tryz.prog true ubsa_ := enk ubic_
noncomputable def uqe_ : Code := u5_ Tryz.f38
theorem ubfg_ : CutOK Tryz.prog true Tryz.f38.ntmps us8_ (sub uqe_ [1, 1, 0, 1, 0]) :=
 lok (body := sub uqe_ [1, 1, 0, 1, 0, 0]) (n := 2) (l := []) u1v_ trivial
theorem ubp2_ : uo_ Tryz.prog 38 ∧ FunOK Tryz.prog 38 u61_ :=
 fnk (c := uqe_) (l := [(us8_, sub uqe_ [1, 1, 0, 1, 0])]) u1v_ Tryz.func38 ⟨⟨by kernel_rfl, ubfg_⟩, trivial⟩
noncomputable def ubp3_ : FSpec := ⟨[.val (.agg ZZ10), .val (.agg ZZ10)], [.val .bool], ubiz_, false⟩
noncomputable def ubp4_ : List (Nat × FSpec) := [(14, uco_), (15, ubws_), (38, u61_)]
theorem ubuc_ : FsOK Tryz.prog ubp4_ := ⟨ufa_, ub1v_, ubp2_, trivial⟩
noncomputable def ub1w_ : Env := mkE ubp4_ [] [] false
theorem ubwt_ : EnvOK Tryz.prog false ub1w_ := enk ubuc_
noncomputable def ub1x_ : Code := u5_ Tryz.f13
theorem ub0a_ : uo_ Tryz.prog 13 ∧ FunOK Tryz.prog 13 ubp3_ :=
 fnk (c := ub1x_) (l := []) ubwt_ Tryz.func13 trivial
noncomputable def ubah_ : FSpec := ⟨[.val (.agg ZZ10), .val (.agg ZZ12), .val (.agg ZZ12)], [.val .bool], uo2_, false⟩
noncomputable def uty_ : List (Nat × FSpec) := [(10, ub1q_), (11, ubd2_), (12, ubd4_), (13, ubp3_), (14, uco_), (15, ubws_)]
theorem u39_ : FsOK Tryz.prog uty_ := ⟨ub7s_, ubt8_, ubt9_, ub0a_, ufa_, ub1v_, trivial⟩
noncomputable def ubcq_ : Env := mkE uty_ [] [] false
theorem u5e_ : EnvOK Tryz.prog false ubcq_ := enk u39_
noncomputable def ubcr_ : Code := u5_ Tryz.f4
theorem L5_AdvisoryDeltasAddUp_ok : uo_ Tryz.prog 4 ∧ FunOK Tryz.prog 4 ubah_ :=
 fnk (c := ubcr_) (l := []) u5e_ Tryz.func4 trivial
end Go.Ev.Pv
