/-
  Each of the program's functions keeps what its plain function says.
-/
import Derived.Test.YthdkjfbmhbimlaaGreatDoorD
import Derived.Test.YthdkjfbmhbimlaaGreatDoorG
import Derived.Test.YthdkjfbmhbimlaaGreatDoorProg
set_option linter.unusedVariables false
set_option linter.unusedSimpArgs false
set_option linter.unusedSectionVars false
set_option maxRecDepth 100000
namespace Go.Ev.Pv
noncomputable section
def seg:Nat→Nat→List Nat
 | _,0=>[]
 | a,n+1=>a::seg (a+1) n
abbrev ZZ12:Ty:=(.agg (.prod .str .str))
abbrev ZZ17:Ty:=(.prod .str (.prod .str (.prod .str (.prod .str (.prod (.slice ZZ12) .str)))))
abbrev ZZ36:Ty:=(.prod .str (.prod (.agg ZZ17) (.prod (.slice ZZ12) (.prod .str (.slice .str)))))
abbrev ZZ2:Ty:=(.agg ZZ36)
abbrev ZZ6:Ty:=(.prod .str (.prod .str (.int .i64)))
abbrev ZZ35:Ty:=(.slice (.agg ZZ6))
abbrev ZZ13:Ty:=(.prod .str (.prod .str (.prod .str (.prod (.slice ZZ2) ZZ35))))
abbrev ZZ16:Ty:=(.prod .str (.prod (.int .i64) (.prod (.slice (.agg (.prod (.int .i64) .str))) (.prod (.slice .str) (.slice .str)))))
abbrev ZZ3:Ty:=(.prod .str (.prod (.slice .str) (.prod .str (.prod (.int .i64) (.prod .bool (.prod .str (.slice (.agg ZZ16))))))))
abbrev ZZ18:Ty:=(.slice (.int .i64))
abbrev ZZ37:Ty:=(.prod (.int .i64) (.prod (.slice (.agg ZZ3)) ZZ18))
abbrev ZZ19:Ty:=(.agg (.prod .str (.prod .str (.prod (.slice (.agg (.prod (.int .i64) (.prod .str (.prod .str .str))))) (.slice .str)))))
abbrev ZZ28:Ty:=(.agg (.prod (.slice (.agg (.prod .str (.slice .str)))) (.prod (.slice (.agg (.prod .str (.slice ZZ12)))) (.prod (.slice ZZ19) (.slice .str)))))
abbrev ZZ15:Ty:=(.prod (.int .i64) (.int .i64))
abbrev ZZ23:Ty:=(.agg (.prod .str (.prod .str (.prod .str (.prod (.int .i64) (.prod (.int .i64) ZZ15))))))
abbrev ZZ4:Ty:=(.prod (.agg ZZ13) (.prod (.int .i64) (.prod (.agg ZZ37) (.prod (.slice ZZ28) (.prod (.int .i64) (.prod (.slice .str) (.slice ZZ23)))))))
abbrev ZZ1:Ty:=(.agg (.prod (.agg ZZ4) (.prod (.map .str (.agg ZZ3)) (.prod (.map .str ZZ2) (.prod (.map .str .bool) (.map (.agg ZZ6) .bool))))))
abbrev ZZ5:Ty:=(.agg (.prod .str (.prod .str (.prod (.int .i64) (.prod (.int .i64) (.prod (.int .i64) (.prod (.slice .str) (.prod .str (.prod (.slice (.agg (.prod .str (.prod (.slice (.agg (.prod (.agg (.prod .str (.int .i64))) .str))) (.slice ZZ12))))) (.int .i64))))))))))
abbrev ZZ26:Ty:=(.prod (.int .i64) (.prod .str (.prod .str .bool)))
abbrev ZZ10:Ty:=(.prod (.int .i64) (.prod ZZ18 (.prod (.int .i64) (.prod (.int .i64) (.prod (.int .i64) (.prod (.int .i64) (.slice .str)))))))
abbrev ZZ20:Ty:=(.agg (.prod .bool (.prod .str (.int .i64))))
abbrev ZZ7:Ty:=(.ialt 465 (.agg (.prod (.arr 3 (.int .i64)) (.slice .str))) (.ialt 471 (.agg ZZ26) (.ialt 475 (.agg ZZ10) (.ialt 485 (.agg (.slice ZZ20)) (.ialt 490 (.agg (.int .i64)) .inil)))))
abbrev ZZ25:Ty:=(.prod (.int .i64) (.prod .str (.prod .bool .str)))
abbrev ZZ8:Ty:=(.prod (.agg ZZ25) (.agg ZZ25))
abbrev ZZ29:Ty:=(.prod .bool (.prod .bool .str))
abbrev ZZ9:Ty:=(.agg (.prod (.agg ZZ29) (.agg ZZ29)))
abbrev ZZ11:Ty:=(.prod (.ptr ZZ1) (.prod (.agg ZZ6) (.prod (.agg ZZ3) (.prod ZZ2 (.prod (.slice .str) (.prod (.int .i64) (.slice .str)))))))
abbrev ZZ14:Ty:=(.agg (.prod (.int .i64) ZZ6))
abbrev ZZ21:Ty:=(.prod (.agg ZZ13) (.prod (.int .i64) (.prod (.slice ZZ18) (.slice ZZ18))))
abbrev ZZ22:Ty:=(.prod (.int .i64) (.slice ZZ9))
abbrev ZZ24:Ty:=(.prod .str ZZ15)
abbrev ZZ27:Ty:=(.agg (.prod .str (.prod (.int .i64) (.prod .bool (.prod .bool (.int .i64))))))
abbrev ZZ30:Ty:=(.map (.agg ZZ6) (.int .i64))
abbrev ZZ31:Ty:=(.agg (.prod .str (.prod .str (.prod (.int .i64) ZZ15))))
abbrev ZZ32:Ty:=(.prod ZZ12 ZZ12)
abbrev ZZ33:Ty:=(.prod ZZ14 ZZ14)
abbrev ZZ34:Ty:=(.slice (.agg ZZ8))
abbrev ZZ38:Ty:=(.prod .bool (.map .str .bool))
open Go.Proofs
def tys:List (Nat×Ty):=[(3,(.int .i64)),(4,.bool),(5,(.int .u8)),(9,.str),(22,(.slice ZZ5)),(23,(.slice .str)),(26,ZZ5),(31,ZZ18),(40,(.slice .bool)),(41,(.slice ZZ31)),(50,(.map .str (.int .i64))),(61,(.agg ZZ6)),(66,(.slice ZZ2)),(67,ZZ35),(69,(.agg ZZ13)),(70,(.slice (.agg ZZ3))),(72,(.agg ZZ37)),(73,(.slice ZZ28)),(74,(.slice ZZ23)),(76,(.agg ZZ4)),(78,(.slice (.slice ZZ5))),(79,ZZ30),(82,ZZ35),(85,ZZ31),(86,(.arr 7 (.int .i64))),(94,(.ptr ZZ1)),(97,(.slice ZZ12)),(99,(.agg ZZ17)),(100,(.slice ZZ12)),(102,ZZ2),(104,(.agg ZZ6)),(106,(.agg (.prod (.int .i64) .str))),(107,(.slice (.agg (.prod (.int .i64) .str)))),(109,(.agg ZZ16)),(110,(.slice (.agg ZZ16))),(112,(.agg ZZ3)),(115,(.int .u64)),(121,ZZ35),(126,(.agg ZZ6)),(128,(.agg ZZ11)),(152,ZZ23),(154,(.map .str ZZ18)),(157,(.slice (.agg ZZ15))),(160,(.agg ZZ15)),(161,(.map .str (.agg ZZ3))),(162,(.map .str ZZ2)),(163,(.map .str .bool)),(164,(.map (.agg ZZ6) .bool)),(166,ZZ1),(171,(.slice ZZ19)),(173,ZZ28),(179,ZZ19),(199,(.agg ZZ38)),(205,(.slice (.agg ZZ22))),(209,(.slice ZZ9)),(211,(.agg ZZ22)),(223,(.slice ZZ18)),(225,(.agg ZZ21)),(232,(.slice (.agg (.prod (.int .i64) (.fnc (.agg ZZ11) .bool))))),(234,(.fnc (.agg ZZ11) .bool)),(236,(.agg (.prod (.int .i64) (.fnc (.agg ZZ11) .bool)))),(269,ZZ27),(278,ZZ12),(298,(.map (.int .u8) (.int .i64))),(299,(.arr 6 (.map (.int .u8) (.int .i64)))),(301,(.arr 6 (.int .i64))),(319,(.agg ZZ24)),(322,(.arr 5 ZZ27)),(327,(.slice (.int .u8))),(329,(.agg (.prod .self (.slice (.int .u8))))),(340,ZZ7),(343,ZZ34),(383,ZZ12),(400,(.agg ZZ29)),(402,ZZ9),(405,(.agg ZZ25)),(408,(.agg ZZ8)),(413,(.slice ZZ14)),(416,ZZ14),(459,(.arr 4 (.int .i64))),(463,(.arr 3 (.int .i64))),(465,(.agg (.prod (.arr 3 (.int .i64)) (.slice .str)))),(471,(.agg ZZ26)),(475,(.agg ZZ10)),(483,(.slice ZZ20)),(485,(.agg (.slice ZZ20))),(487,ZZ20),(490,(.agg (.int .i64)))]
theorem ucew_:tysOK Tryz.prog tys=true:=by kernel_rfl
def els:List (Nat×Nat):=[(22,26),(23,9),(31,3),(40,4),(41,85),(66,102),(67,104),(70,112),(78,22),(82,61),(97,278),(107,106),(110,109),(121,126),(154,3),(157,160),(205,211),(209,402),(223,31),(232,236),(327,5),(343,408),(413,416),(483,487)]
theorem ucex_:elsOK Tryz.prog els=true:=by kernel_rfl
def eqs:List Nat:=[61,104,152]
theorem ucey_:eqsOK Tryz.prog tys eqs=true:=by kernel_rfl
def kys:List (Nat×Nat):=[(79,61),(164,104)]
theorem ucez_:kysOK Tryz.prog kys=true:=by kernel_rfl
theorem mix:Tryz.prog.follows .mixedOrders=true:=by kernel_rfl
def mname (t i:Nat):String:=(((Tryz.prog.types[t]?).bind fun x=>x.methods[i]?).map fun m=>m.name).getD default
def ms:List (String×Nat×Nat):=[(mname 465 0,465,463),(mname 465 1,465,464),(mname 471 0,471,470),(mname 471 1,471,471),(mname 475 0,475,478),(mname 475 1,475,479),(mname 485 0,485,486),(mname 485 1,485,487),(mname 490 0,490,492),(mname 490 1,490,493)]
theorem ms_ok:MsOK Tryz.prog ms:=⟨(fun v w=>by kernel_rfl),(fun v w=>by kernel_rfl),(fun v w=>by kernel_rfl),(fun v w=>by kernel_rfl),(fun v w=>by kernel_rfl),(fun v w=>by kernel_rfl),(fun v w=>by kernel_rfl),(fun v w=>by kernel_rfl),(fun v w=>by kernel_rfl),(fun v w=>by kernel_rfl),trivial⟩
abbrev FO (f:Nat) (s:FSpec):Prop:=ugs_ Tryz.prog f∧FunOK Tryz.prog f s
abbrev EO (E:Env):Prop:=EnvOK Tryz.prog true E
abbrev CO (N:Nat) (s:CSpec) (c:Code):Prop:=CutOK Tryz.prog true N s c
def mkE (fs:List (Nat×FSpec)) (cs:List (Nat×CSpec)) (wr:List Nat) (dr:Bool) (dp:Nat→Nat:=fun _=>0):Env:=⟨lookN tys,lookN fs,lookN cs,(fun d=>hasN d wr),elOf Tryz.prog els,lookM ms,(fun t=>hasN t eqs),dr,dp,kyOf Tryz.prog kys⟩
theorem enk {dr:Bool} {fs:List (Nat×FSpec)} {cs:List (Nat×CSpec)} {wr:List Nat} {dp:Nat→Nat} (h3:FsOK Tryz.prog fs) (h6:(!dr||fs.all fun p=>p.2.dr)=true:=by kernel_rfl):EnvOK Tryz.prog dr (mkE fs cs wr dr dp):=ucby_ rfl ucew_ ucex_ h3 ms_ok ucey_ ucez_ h6
theorem fnk {dr:Bool} {E:Env} {f:FuncId} {fn:Func} {c:Code} {ps rs:List Sh} {F:TupR ps→Option (TupR (rs++ps.filter isBox))} {l:List (CSpec×Code)} (hE:EnvOK Tryz.prog dr E)
 (hf:Tryz.prog.funcs[f]? = some fn) (hc:AllCuts Tryz.prog dr fn.ntmps (okFun fn.ntmps ps) l) (hnm:(fn.name == "runtime.NumGoroutine")=false:=by kernel_rfl) (hb:fn.body=some c:=by kernel_rfl) (hd:dstOK (okFun fn.ntmps ps) c=true:=by kernel_rfl) (hn:Nat.ble ps.length fn.ntmps=true:=by kernel_rfl) (hl:Nat.beq fn.results.toList.length rs.length=true:=by kernel_rfl)
 (hcs:u03_ E c 0=l:=by kernel_rfl) (hF:∀ v,evFun E fn ps rs v=F v:=by intro v; kernel_rfl):ugs_ Tryz.prog f∧FunOK Tryz.prog f ⟨ps,rs,F,dr⟩:=fn_ok hE mix hf hnm hb hd hn hl hcs hc hF
theorem lok {dr:Bool} {E:Env} {N n:Nat} {body:Code} {al:List (Nat×Nat)} {inn:Kp} {outs:List (Ex×Kp)} {wrs:List Nat} {r:(TupR inn.sh→Option (OutT outs))→TupR inn.sh→Option (OutT outs)} {l:List (CSpec×Code)} (hE:EnvOK Tryz.prog dr E)
 (hc:AllCuts Tryz.prog dr N (okCut N wrs) l) (hd:dstOK (okCut N wrs) body=true:=by kernel_rfl) (hcs:u03_ E body n=l:=by kernel_rfl) (hF:∀ next v,ub40_ E body n al inn outs next v=r next v:=by intro next v; kernel_rfl) :
 CutOK Tryz.prog dr N ⟨inn,outs,wrs,loopN r fuel,al,none⟩ (.loop body):=ucdk_ hE mix hd hcs hc hF fuel
theorem brk {dr:Bool} {E:Env} {N n:Nat} {c:Operand} {x y:Code} {al:List (Nat×Nat)} {inn:Kp} {outs:List (Ex×Kp)} {wrs:List Nat} {F:TupR inn.sh→Option (OutT outs)} {lx ly:List (CSpec×Code)} (hE:EnvOK Tryz.prog dr E)
 (hx:AllCuts Tryz.prog dr N (okCut N wrs) lx) (hy:AllCuts Tryz.prog dr N (okCut N wrs) ly) (hd:dstOK (okCut N wrs) (.cond c x y)=true:=by kernel_rfl) (hcx:u03_ E x (n+1)=lx:=by kernel_rfl) (hcy:u03_ E y (n+1+nodes x)=ly:=by kernel_rfl)
 (hF:∀ v,ub75_ E c x y n al inn outs v=F v:=by intro v; kernel_rfl):CutOK Tryz.prog dr N ⟨inn,outs,wrs,F,al,none⟩ (.cond c x y):=ub86_ hE mix hd hcx hcy hx hy hF
def umd_:FSpec:=⟨[.val ZZ5],[.val (.int .i64)],ukw_,true⟩
def ubeh_:Env:=mkE [] [] [] true
theorem u7b_:EO ubeh_:=enk trivial
theorem uvp_:FO 19 umd_ :=
 fnk (c:=ui_ Tryz.f19) (l:=[]) u7b_ Tryz.func19 trivial
def uky_:FSpec:=⟨[.val (.slice ZZ5)],[.val (.int .i64)],uet_,true⟩
def ujy_:CSpec:=⟨⟨[9,10,11],[.val (.slice ZZ5),.val (.int .i64),.val (.int .i64)]⟩,[((.exit 0),⟨[],[]⟩),(.ret,⟨[2],[.val (.int .i64)]⟩)],([2,4,5]++seg 11 10),ukx_,[],none⟩
def ubb3_:Env:=mkE [(19,umd_)] [(1,ujy_)] [] true
theorem uqi_:EO ubb3_:=enk ⟨uvp_,trivial⟩
def uhl_:Code:=ui_ Tryz.f23
theorem u1y_:CO Tryz.f23.ntmps ujy_ (sub uhl_ [1,1,0,1,0]) :=
 lok (body:=sub uhl_ [1,1,0,1,0,0]) (n:=2) (l:=[]) uqi_ trivial
theorem uti_:FO 23 uky_ :=
 fnk (c:=uhl_) (l:=[(ujy_,sub uhl_ [1,1,0,1,0])]) uqi_ Tryz.func23 ⟨⟨by kernel_rfl,u1y_⟩,trivial⟩
def uba9_:FSpec:=⟨[],[.val (.arr 7 (.int .i64))],ubk6_,true⟩
def ubtg_:Env:=mkE [] [] [] true
theorem ubl1_:EO ubtg_:=enk trivial
theorem ubqj_:FO 39 uba9_ :=
 fnk (c:=ui_ Tryz.f39) (l:=[]) ubl1_ Tryz.func39 trivial
def u5v_:FSpec:=⟨[.val ZZ5],[.val (.int .i64)],u04_,true⟩
def ubxm_:Env:=mkE [(39,uba9_)] [] [] true
theorem ubqk_:EO ubxm_:=enk ⟨ubqj_,trivial⟩
theorem ubig_:FO 20 u5v_ :=
 fnk (c:=ui_ Tryz.f20) (l:=[]) ubqk_ Tryz.func20 trivial
def ubei_:FSpec:=⟨[.val (.int .i64)],[.val .bool],u38_,true⟩
def ubut_:Env:=mkE [] [] [] true
theorem ubob_:EO ubut_:=enk trivial
theorem ubth_:FO 45 ubei_ :=
 fnk (c:=ui_ Tryz.f45) (l:=[]) ubob_ Tryz.func45 trivial
def ufe_:FSpec:=⟨[.val (.int .i64),.val (.int .i64)],[.val (.int .i64)],udg_,true⟩
def ubql_:Env:=mkE [(45,ubei_)] [] [] true
theorem ubjc_:EO ubql_:=enk ⟨ubth_,trivial⟩
theorem ug8_:FO 31 ufe_ :=
 fnk (c:=ui_ Tryz.f31) (l:=[]) ubjc_ Tryz.func31 trivial
def u1z_:FSpec:=⟨[.val ZZ5],[.val (.agg ZZ6)],unk_,true⟩
def ubuu_:Env:=mkE [] [] [] true
theorem uboc_:EO ubuu_:=enk trivial
theorem ubej_:FO 33 u1z_ :=
 fnk (c:=ui_ Tryz.f33) (l:=[]) uboc_ Tryz.func33 trivial
def u4s_:FSpec:=⟨[.val .str],[.val .bool],uss_,true⟩
def ubod_:Env:=mkE [] [] [] true
theorem ubgp_:EO ubod_:=enk trivial
theorem ubl2_:FO 54 u4s_ :=
 fnk (c:=ui_ Tryz.f54) (l:=[]) ubgp_ Tryz.func54 trivial
def udc_:FSpec:=⟨[.val .str,.val .str],[.val (.int .i64)],ubx_,true⟩
def ubjd_:Env:=mkE [(54,u4s_)] [] [] true
theorem ubb4_:EO ubjd_:=enk ⟨ubl2_,trivial⟩
theorem ueu_:FO 46 udc_ :=
 fnk (c:=ui_ Tryz.f46) (l:=[]) ubb4_ Tryz.func46 trivial
def ur0_:FSpec:=⟨[.val ZZ18],[.val (.int .i64)],uxj_,true⟩
def u8t_:CSpec:=⟨⟨[3,6,7,8],[.val (.int .i64),.val ZZ18,.val (.int .i64),.val (.int .i64)]⟩,[((.exit 0),⟨[],[]⟩),(.ret,⟨[2],[.val (.int .i64)]⟩)],([2,5]++seg 8 9),ubdg_,[],none⟩
def ub1p_:Env:=mkE [] [(0,u8t_)] [] true
theorem ubih_:EO ub1p_:=enk trivial
def u8u_:Code:=ui_ Tryz.f30
theorem ubqm_:CO Tryz.f30.ntmps u8t_ (sub u8u_ [1,1,0,1,0]) :=
 lok (body:=sub u8u_ [1,1,0,1,0,0]) (n:=1) (l:=[]) ubih_ trivial
theorem uxx_:FO 30 ur0_ :=
 fnk (c:=u8u_) (l:=[(u8t_,sub u8u_ [1,1,0,1,0])]) ubih_ Tryz.func30 ⟨⟨by kernel_rfl,ubqm_⟩,trivial⟩
def uq5_:FSpec:=⟨[.val (.agg ZZ6),.val (.agg ZZ6)],[.val (.int .i64)],uew_,true⟩
def ubl3_:Env:=mkE [(30,ur0_),(31,ufe_),(46,udc_)] [] [] true
theorem ubek_:EO ubl3_:=enk ⟨uxx_,ug8_,ueu_,trivial⟩
theorem u10_:FO 32 uq5_ :=
 fnk (c:=ui_ Tryz.f32) (l:=[]) ubek_ Tryz.func32 trivial
def u4t_:FSpec:=⟨[.val (.int .i64),.val (.int .i64),.val (.ptr (.slice ZZ5))],[.val (.int .i64)],ujn_,true⟩
def uboe_:Env:=mkE [(20,u5v_),(30,ur0_),(31,ufe_),(32,uq5_),(33,u1z_)] [] [] true
theorem ubgq_:EO uboe_:=enk ⟨ubig_,uxx_,ug8_,u10_,ubej_,trivial⟩
theorem ubl4_:FO 29 u4t_ :=
 fnk (c:=ui_ Tryz.f29) (l:=[]) ubgq_ Tryz.func29 trivial
def uik_:FSpec:=⟨[.io 3 (.int .i64),.val (.int .i64),.val (.int .i64),.hof false ZZ15 (.int .i64)],[],u5_,false⟩
def ueb_:CSpec:=⟨⟨[0,1,3,9],[.own 3 (.int .i64) true,.val (.int .i64),.hof false ZZ15 (.int .i64),.val (.int .i64)]⟩,[((.exit 2),⟨[0],[.own 3 (.int .i64) true]⟩)],([9]++seg 18 35),ucl_,[],none⟩
def uec_:CSpec:=⟨⟨[0,1,2,3,8],[.own 3 (.int .i64) true,.val (.int .i64),.val (.int .i64),.hof false ZZ15 (.int .i64),.val (.int .i64)]⟩,[((.exit 0),⟨[0],[.own 3 (.int .i64) true]⟩)],([8,9]++seg 12 41),uel_,[],none⟩
def uuv_:Env:=mkE [] [(2,ueb_),(0,uec_)] [] false
theorem udr_:EnvOK Tryz.prog false uuv_:=enk trivial
def u2_:Code:=ui_ Tryz.f52
theorem uph_:CutOK Tryz.prog false Tryz.f52.ntmps ueb_ (sub u2_ [1,0,0,1,0,0,1,0]) :=
 lok (body:=sub u2_ [1,0,0,1,0,0,1,0,0]) (n:=3) (l:=[]) udr_ trivial
theorem upi_:CutOK Tryz.prog false Tryz.f52.ntmps uec_ (sub u2_ [1,0]) :=
 lok (body:=sub u2_ [1,0,0]) (n:=1) (l:=[(ueb_,sub u2_ [1,0,0,1,0,0,1,0])]) udr_ ⟨⟨by kernel_rfl,uph_⟩,trivial⟩
theorem utj_:FO 52 uik_ :=
 fnk (c:=u2_) (l:=[(uec_,sub u2_ [1,0])]) udr_ Tryz.func52 ⟨⟨by kernel_rfl,upi_⟩,trivial⟩
def ulv_:FSpec:=⟨[.io 3 (.int .i64),.val (.int .i64),.val (.int .i64),.val (.int .i64),.hof false ZZ15 (.int .i64)],[],u9_,true⟩
def ufv_:CSpec:=⟨⟨[0,1,2,3,10],[.own 3 (.int .i64) true,.val (.int .i64),.val (.int .i64),.val (.int .i64),.val (.int .i64)]⟩,[((.exit 0),⟨[0],[.own 3 (.int .i64) true]⟩)],(seg 10 28),ugk_,[],none⟩
def u0e_:Env:=mkE [] [(0,ufv_)] [] true
theorem ujz_:EO u0e_:=enk trivial
def ud9_:Code:=ui_ Tryz.f103
theorem utk_:CO Tryz.f103.ntmps ufv_ (sub ud9_ [1,0]) :=
 lok (body:=sub ud9_ [1,0,0]) (n:=1) (l:=[]) ujz_ trivial
theorem uyx_:FO 103 ulv_ :=
 fnk (c:=ud9_) (l:=[(ufv_,sub ud9_ [1,0])]) ujz_ Tryz.func103 ⟨⟨by kernel_rfl,utk_⟩,trivial⟩
def uo8_:FSpec:=⟨[.io 3 (.int .i64),.val (.int .i64),.val (.int .i64),.val (.int .i64),.hof false ZZ15 (.int .i64)],[],uc6_,true⟩
def uhe_:CSpec:=⟨⟨[0,2,4,10,11],[.own 3 (.int .i64) true,.val (.int .i64),.hof false ZZ15 (.int .i64),.val (.int .i64),.val (.int .i64)]⟩,[((.exit 0),⟨[0,10],[.own 3 (.int .i64) true,.val (.int .i64)]⟩)],([10,11]++seg 18 32),uh3_,[],none⟩
def u5w_:Env:=mkE [(103,ulv_)] [(0,uhe_)] [] true
theorem umy_:EO u5w_:=enk ⟨uyx_,trivial⟩
def ufq_:Code:=ui_ Tryz.f79
theorem uxy_:CO Tryz.f79.ntmps uhe_ (sub ufq_ [1,1,0,0]) :=
 lok (body:=sub ufq_ [1,1,0,0,0]) (n:=1) (l:=[]) umy_ trivial
theorem u3f_:FO 79 uo8_ :=
 fnk (c:=ufq_) (l:=[(uhe_,sub ufq_ [1,1,0,0])]) umy_ Tryz.func79 ⟨⟨by kernel_rfl,uxy_⟩,trivial⟩
def uk_ (n:Nat):FSpec:=⟨[.io 3 (.int .i64),.val (.int .i64),.val (.int .i64),.val (.int .i64),.hof false ZZ15 (.int .i64)],[],um_ n,false⟩
def umz_:FSpec:=⟨[.io 3 (.int .i64),.val (.int .i64),.val (.int .i64),.val (.int .i64),.hof false ZZ15 (.int .i64)],[],ubc_,false⟩
def um0_ (n:Nat):List (Nat×FSpec):=[(53,(uk_ n)),(79,uo8_)]
theorem uwm_ (n:Nat) (ih:FO 53 (uk_ n)):FsOK Tryz.prog (um0_ n):=⟨ih,u3f_,trivial⟩
def ugn_ (n:Nat):CSpec:=⟨⟨[0,1,4,10,11],[.own 3 (.int .i64) true,.val (.int .i64),.hof false ZZ15 (.int .i64),.val (.int .i64),.val (.int .i64)]⟩,[((.exit 0),⟨[0,10],[.own 3 (.int .i64) true,.val (.int .i64)]⟩)],([10,11,12]++seg 31 23),(ud6_ (um_ n)),[],none⟩
def ugo_ (n:Nat):CSpec:=⟨⟨[0,10,13],[.own 3 (.int .i64) true,.val (.int .i64),.val (.int .i64)]⟩,[((.exit 2),⟨[0],[.own 3 (.int .i64) true]⟩)],([13]++seg 55 22),(ud7_ (um_ n)),[],none⟩
def ugp_ (n:Nat):CSpec:=⟨⟨[0,2,4,14,15],[.own 3 (.int .i64) true,.val (.int .i64),.hof false ZZ15 (.int .i64),.val (.int .i64),.val (.int .i64)]⟩,[((.exit 4),⟨[0,14],[.own 3 (.int .i64) true,.val (.int .i64)]⟩)],([14,15,16]++seg 83 24),(ud8_ (um_ n)),[],none⟩
def ufw_ (n:Nat):CSpec:=⟨⟨[0,14,17],[.own 3 (.int .i64) true,.val (.int .i64),.val (.int .i64)]⟩,[((.exit 6),⟨[0],[.own 3 (.int .i64) true]⟩)],([17]++seg 108 21),(udk_ (um_ n)),[],none⟩
def ufx_ (n:Nat):CSpec:=⟨⟨[1,2,3,18,19,140],[.val (.int .i64),.val (.int .i64),.val (.int .i64),.val (.int .i64),.val (.int .i64),.val .bool]⟩,[(.normal,⟨[20,21],[.val (.int .i64),.val (.int .i64)]⟩)],[20,21,141,142,143,144,145,146],(ubi_ (um_ n)),[],none⟩
def ufy_ (n:Nat):CSpec:=⟨⟨[0,4,20,21,22],[.own 3 (.int .i64) true,.hof false ZZ15 (.int .i64),.val (.int .i64),.val (.int .i64),.val (.int .i64)]⟩,[((.exit 8),⟨[0,20],[.own 3 (.int .i64) true,.val (.int .i64)]⟩)],([20,21,23]++seg 149 26),(udl_ (um_ n)),[],none⟩
def ufz_ (n:Nat):CSpec:=⟨⟨[0,2,4,20,24,185],[.own 3 (.int .i64) true,.val (.int .i64),.hof false ZZ15 (.int .i64),.val (.int .i64),.val (.int .i64),.val .bool]⟩,[(.normal,⟨[0],[.own 3 (.int .i64) true]⟩)],[186,187,188,189,190,191],(ubj_ (um_ n)),[],none⟩
def uf0_ (n:Nat):CSpec:=⟨⟨[0,1,4,18,20,199],[.own 3 (.int .i64) true,.val (.int .i64),.hof false ZZ15 (.int .i64),.val (.int .i64),.val (.int .i64),.val .bool]⟩,[(.normal,⟨[0],[.own 3 (.int .i64) true]⟩)],[200,201,202,203,204,205],(ubk_ (um_ n)),[],none⟩
def u11_ (n:Nat):Env:=mkE (um0_ n) [(1,(ugn_ n)),(4,(ugo_ n)),(7,(ugp_ n)),(10,(ufw_ n)),(12,(ufx_ n)),(13,(ufy_ n)),(16,(ufz_ n)),(17,(uf0_ n))] [] false
theorem uw_ (n:Nat) (ih:FO 53 (uk_ n)):EnvOK Tryz.prog false (u11_ n):=enk (uwm_ n ih)
def uc_:Code:=ui_ Tryz.f53
theorem uuw_ (n:Nat) (ih:FO 53 (uk_ n)):CutOK Tryz.prog false Tryz.f53.ntmps (ugn_ n) (sub uc_ [0,1,0,1,1,0,0]) :=
 lok (body:=sub uc_ [0,1,0,1,1,0,0,0]) (n:=2) (l:=[]) (uw_ n ih) trivial
theorem uux_ (n:Nat) (ih:FO 53 (uk_ n)):CutOK Tryz.prog false Tryz.f53.ntmps (ugo_ n) (sub uc_ [0,1,0,1,1,1,0,1,0]) :=
 lok (body:=sub uc_ [0,1,0,1,1,1,0,1,0,0]) (n:=5) (l:=[]) (uw_ n ih) trivial
theorem uuy_ (n:Nat) (ih:FO 53 (uk_ n)):CutOK Tryz.prog false Tryz.f53.ntmps (ugp_ n) (sub uc_ [1,0,1,0,1,1,0,0]) :=
 lok (body:=sub uc_ [1,0,1,0,1,1,0,0,0]) (n:=8) (l:=[]) (uw_ n ih) trivial
theorem utl_ (n:Nat) (ih:FO 53 (uk_ n)):CutOK Tryz.prog false Tryz.f53.ntmps (ufw_ n) (sub uc_ [1,0,1,0,1,1,1,0,1,0]) :=
 lok (body:=sub uc_ [1,0,1,0,1,1,1,0,1,0,0]) (n:=11) (l:=[]) (uw_ n ih) trivial
theorem utm_ (n:Nat) (ih:FO 53 (uk_ n)):CutOK Tryz.prog false Tryz.f53.ntmps (ufx_ n) (sub uc_ [1,1,1,1,1,0,1]) :=
 brk (c:=ul8_ (sub uc_ [1,1,1,1,1,0,1])) (x:=sub uc_ [1,1,1,1,1,0,1,0]) (y:=sub uc_ [1,1,1,1,1,0,1,1]) (n:=12) (lx:=[]) (ly:=[]) (uw_ n ih) trivial trivial
theorem utn_ (n:Nat) (ih:FO 53 (uk_ n)):CutOK Tryz.prog false Tryz.f53.ntmps (ufy_ n) (sub uc_ [1,1,1,1,1,1,1,0,0]) :=
 lok (body:=sub uc_ [1,1,1,1,1,1,1,0,0,0]) (n:=14) (l:=[]) (uw_ n ih) trivial
theorem uto_ (n:Nat) (ih:FO 53 (uk_ n)):CutOK Tryz.prog false Tryz.f53.ntmps (ufz_ n) (sub uc_ [1,1,1,1,1,1,1,1,1,0,1]) :=
 brk (c:=ul8_ (sub uc_ [1,1,1,1,1,1,1,1,1,0,1])) (x:=sub uc_ [1,1,1,1,1,1,1,1,1,0,1,0]) (y:=sub uc_ [1,1,1,1,1,1,1,1,1,0,1,1]) (n:=16) (lx:=[]) (ly:=[]) (uw_ n ih) trivial trivial
theorem utp_ (n:Nat) (ih:FO 53 (uk_ n)):CutOK Tryz.prog false Tryz.f53.ntmps (uf0_ n) (sub uc_ [1,1,1,1,1,1,1,1,1,1,0,1]) :=
 brk (c:=ul8_ (sub uc_ [1,1,1,1,1,1,1,1,1,1,0,1])) (x:=sub uc_ [1,1,1,1,1,1,1,1,1,1,0,1,0]) (y:=sub uc_ [1,1,1,1,1,1,1,1,1,1,0,1,1]) (n:=17) (lx:=[]) (ly:=[]) (uw_ n ih) trivial trivial
theorem uxz_ (n:Nat) (ih:FO 53 (uk_ n)):FO 53 (uk_ (n+1)) :=
 fnk (c:=uc_) (l:=[((ugn_ n),sub uc_ [0,1,0,1,1,0,0]),((ugo_ n),sub uc_ [0,1,0,1,1,1,0,1,0]),((ugp_ n),sub uc_ [1,0,1,0,1,1,0,0]),((ufw_ n),sub uc_ [1,0,1,0,1,1,1,0,1,0]),((ufx_ n),sub uc_ [1,1,1,1,1,0,1]),((ufy_ n),sub uc_ [1,1,1,1,1,1,1,0,0]),((ufz_ n),sub uc_ [1,1,1,1,1,1,1,1,1,0,1]),((uf0_ n),sub uc_ [1,1,1,1,1,1,1,1,1,1,0,1])]) (uw_ n ih) Tryz.func53 ⟨⟨by kernel_rfl,(uuw_ n ih)⟩,⟨by kernel_rfl,(uux_ n ih)⟩,⟨by kernel_rfl,(uuy_ n ih)⟩,⟨by kernel_rfl,(utl_ n ih)⟩,⟨by kernel_rfl,(utm_ n ih)⟩,⟨by kernel_rfl,(utn_ n ih)⟩,⟨by kernel_rfl,(uto_ n ih)⟩,⟨by kernel_rfl,(utp_ n ih)⟩,trivial⟩
theorem ux0_:∀ n,FO 53 (uk_ n):=fun n=>Nat.rec ⟨⟨Tryz.f53,uc_,Tryz.func53,by kernel_rfl,by kernel_rfl⟩,fun w I v args bs _ _ _ r hr=>by cases hr⟩ (fun n ih=>uxz_ n ih) n
theorem u0f_:FO 53 umz_:=ux0_ 100
def uo9_:FSpec:=⟨[.io 3 (.int .i64),.val (.int .i64),.hof false ZZ15 (.int .i64)],[],uem_,false⟩
def uhf_:CSpec:=⟨⟨[0,1,2,6,7,8],[.own 3 (.int .i64) true,.val (.int .i64),.hof false ZZ15 (.int .i64),.val (.int .i64),.val (.int .i64),.val (.int .i64)]⟩,[((.exit 0),⟨[0,7],[.own 3 (.int .i64) true,.val (.int .i64)]⟩)],([7,8]++seg 11 12),ue1_,[],none⟩
def uhg_:CSpec:=⟨⟨[0,1,2,6,7,8],[.own 3 (.int .i64) true,.val (.int .i64),.hof false ZZ15 (.int .i64),.val (.int .i64),.val (.int .i64),.val (.int .i64)]⟩,[((.exit 4),⟨[0,7],[.own 3 (.int .i64) true,.val (.int .i64)]⟩)],([7,8]++seg 33 16),ue2_,[],none⟩
def uhh_:CSpec:=⟨⟨[0,1,2,6],[.own 3 (.int .i64) true,.val (.int .i64),.hof false ZZ15 (.int .i64),.val (.int .i64)]⟩,[((.exit 2),⟨[0],[.own 3 (.int .i64) true]⟩)],([6,7,8,9]++seg 28 35),ue3_,[],none⟩
def u5x_:Env:=mkE [(52,uik_),(53,umz_)] [(0,uhf_),(4,uhg_),(2,uhh_)] [] false
theorem uea_:EnvOK Tryz.prog false u5x_:=enk ⟨utj_,u0f_,trivial⟩
def u0_:Code:=ui_ Tryz.f44
theorem ux1_:CutOK Tryz.prog false Tryz.f44.ntmps uhf_ (sub u0_ [1,1,0,0]) :=
 lok (body:=sub u0_ [1,1,0,0,0]) (n:=1) (l:=[]) uea_ trivial
theorem ux2_:CutOK Tryz.prog false Tryz.f44.ntmps uhg_ (sub u0_ [1,1,1,1,0,0,1,0,1,0,0]) :=
 lok (body:=sub u0_ [1,1,1,1,0,0,1,0,1,0,0,0]) (n:=5) (l:=[]) uea_ trivial
theorem ux3_:CutOK Tryz.prog false Tryz.f44.ntmps uhh_ (sub u0_ [1,1,1,1,0]) :=
 lok (body:=sub u0_ [1,1,1,1,0,0]) (n:=3) (l:=[(uhg_,sub u0_ [1,1,1,1,0,0,1,0,1,0,0])]) uea_ ⟨⟨by kernel_rfl,ux2_⟩,trivial⟩
theorem u3g_:FO 44 uo9_ :=
 fnk (c:=u0_) (l:=[(uhf_,sub u0_ [1,1,0,0]),(uhh_,sub u0_ [1,1,1,1,0])]) uea_ Tryz.func44 ⟨⟨by kernel_rfl,ux1_⟩,⟨by kernel_rfl,ux3_⟩,trivial⟩
def unq_:FSpec:=⟨[.io 3 (.int .i64),.hof false ZZ15 (.int .i64)],[],u6_,false⟩
def u3h_:Env:=mkE [(44,uo9_)] [] [] false
theorem uyy_:EnvOK Tryz.prog false u3h_:=enk ⟨u3g_,trivial⟩
theorem u12_:FO 28 unq_ :=
 fnk (c:=ui_ Tryz.f28) (l:=[]) uyy_ Tryz.func28 trivial
def ubel_:FSpec:=⟨[.val (.slice ZZ5)],[.own 3 (.int .i64) true,.val (.int .i64)],unl_,false⟩
def uyz_:CSpec:=⟨⟨[5,13,14],[.own 3 (.int .i64) true,.val (.int .i64),.val (.int .i64)]⟩,[((.exit 0),⟨[5],[.own 3 (.int .i64) true]⟩)],([5,6]++seg 14 8),ust_,[],none⟩
def ubuv_:Env:=mkE [(23,uky_),(28,unq_),(29,u4t_)] [(1,uyz_)] [] false
theorem u7c_:EnvOK Tryz.prog false ubuv_:=enk ⟨uti_,u12_,ubl4_,trivial⟩
def uxe_:Code:=ui_ Tryz.f11
theorem ubje_:CutOK Tryz.prog false Tryz.f11.ntmps uyz_ (sub uxe_ [1,1,1,0,1,0]) :=
 lok (body:=sub uxe_ [1,1,1,0,1,0,0]) (n:=2) (l:=[]) u7c_ trivial
theorem ubti_:FO 11 ubel_ :=
 fnk (c:=uxe_) (l:=[(uyz_,sub uxe_ [1,1,1,0,1,0])]) u7c_ Tryz.func11 ⟨⟨by kernel_rfl,ubje_⟩,trivial⟩
def ubv7_:FSpec:=⟨[],[.val (.agg ZZ4)],ub6s_,true⟩
def ub66_:Env:=mkE [] [] [] true
theorem ubzz_:EO ub66_:=enk trivial
theorem ub37_:FO 36 ubv7_ :=
 fnk (c:=ui_ Tryz.f36) (l:=[]) ubzz_ Tryz.func36 trivial
def ubp2_:FSpec:=⟨[.val .str],[.val .bool],ubsr_,true⟩
def u8v_:CSpec:=⟨⟨[0,5,6],[.val .str,.val (.int .i64),.val (.int .i64)]⟩,[((.exit 0),⟨[],[]⟩),(.ret,⟨[2],[.val .bool]⟩)],([2,3]++seg 6 14),ubpp_,[],none⟩
def ub1q_:Env:=mkE [] [(0,u8v_)] [] true
theorem ubii_:EO ub1q_:=enk trivial
def u8w_:Code:=ui_ Tryz.f134
theorem ubqn_:CO Tryz.f134.ntmps u8v_ (sub u8w_ [1,0,1,0]) :=
 lok (body:=sub u8w_ [1,0,1,0,0]) (n:=1) (l:=[]) ubii_ trivial
theorem ubz0_:FO 134 ubp2_ :=
 fnk (c:=u8w_) (l:=[(u8v_,sub u8w_ [1,0,1,0])]) ubii_ Tryz.func134 ⟨⟨by kernel_rfl,ubqn_⟩,trivial⟩
def u13_:FSpec:=⟨[.val .str,.val (.int .i64)],[.val .bool],ubdj_,true⟩
def uy0_:CSpec:=⟨⟨[0,7,8],[.val .str,.val (.int .i64),.val (.int .i64)]⟩,[((.exit 0),⟨[],[]⟩),(.ret,⟨[4],[.val .bool]⟩)],([4,5]++seg 8 14),ubdi_,[],none⟩
def ubuw_:Env:=mkE [] [(0,uy0_)] [] true
theorem u7d_:EO ubuw_:=enk trivial
def uxf_:Code:=ui_ Tryz.f178
theorem ubjf_:CO Tryz.f178.ntmps uy0_ (sub uxf_ [1,0,1,0]) :=
 lok (body:=sub uxf_ [1,0,1,0,0]) (n:=1) (l:=[]) u7d_ trivial
theorem ubem_:FO 178 u13_ :=
 fnk (c:=uxf_) (l:=[(uy0_,sub uxf_ [1,0,1,0])]) u7d_ Tryz.func178 ⟨⟨by kernel_rfl,ubjf_⟩,trivial⟩
def uben_:FSpec:=⟨[],[.val (.arr 5 ZZ27)],ubst_,true⟩
def ub1r_:Env:=mkE [] [] [] true
theorem ubux_:EO ub1r_:=enk trivial
theorem ubp3_:FO 185 uben_ :=
 fnk (c:=ui_ Tryz.f185) (l:=[]) ubux_ Tryz.func185 trivial
def ubp4_:FSpec:=⟨[.val .str],[.val (.int .i64)],ubzq_,true⟩
def u8x_:CSpec:=⟨⟨[0,5,6],[.val .str,.val (.arr 5 ZZ27),.val (.int .i64)]⟩,[((.exit 0),⟨[],[]⟩),(.ret,⟨[2],[.val (.int .i64)]⟩)],([2,3,4]++seg 6 10),ubpq_,[],none⟩
def ub1s_:Env:=mkE [(185,uben_)] [(0,u8x_)] [] true
theorem ubij_:EO ub1s_:=enk ⟨ubp3_,trivial⟩
def u8y_:Code:=ui_ Tryz.f184
theorem ubqo_:CO Tryz.f184.ntmps u8x_ (sub u8y_ [1,0,1,0]) :=
 lok (body:=sub u8y_ [1,0,1,0,0]) (n:=1) (l:=[]) ubij_ trivial
theorem ubz1_:FO 184 ubp4_ :=
 fnk (c:=u8y_) (l:=[(u8x_,sub u8y_ [1,0,1,0])]) ubij_ Tryz.func184 ⟨⟨by kernel_rfl,ubqo_⟩,trivial⟩
def ubjg_:FSpec:=⟨[.val .str],[.val ZZ27,.val (.int .i64)],ubxd_,true⟩
def ub38_:Env:=mkE [(184,ubp4_),(185,uben_)] [] [] true
theorem ubxn_:EO ub38_:=enk ⟨ubz1_,ubp3_,trivial⟩
theorem ubtj_:FO 138 ubjg_ :=
 fnk (c:=ui_ Tryz.f138) (l:=[]) ubxn_ Tryz.func138 trivial
def ubtk_:FSpec:=⟨[.val (.agg ZZ17)],[.val .bool],ub22_,true⟩
def ubeo_:CSpec:=⟨⟨[15,16,17],[.own 9 .str false,.val (.int .i64),.val (.int .i64)]⟩,[((.exit 0),⟨[],[]⟩),(.ret,⟨[2],[.val .bool]⟩)],([2,4]++seg 17 8),ubsu_,[],none⟩
def ubep_:CSpec:=⟨⟨[26,27,28],[.val (.slice ZZ12),.val (.int .i64),.val (.int .i64)]⟩,[((.exit 2),⟨[],[]⟩),(.ret,⟨[2],[.val .bool]⟩)],([2,6]++seg 28 15),ubsv_,[],none⟩
def ub39_:Env:=mkE [] [(0,ubeo_),(3,ubep_)] [] true
theorem u8z_:EO ub39_:=enk trivial
def uwn_:Code:=ui_ Tryz.f139
theorem ubtl_:CO Tryz.f139.ntmps ubeo_ (sub uwn_ [1,0,1,0]) :=
 lok (body:=sub uwn_ [1,0,1,0,0]) (n:=1) (l:=[]) u8z_ trivial
theorem ubtm_:CO Tryz.f139.ntmps ubep_ (sub uwn_ [1,1,0,1,0]) :=
 lok (body:=sub uwn_ [1,1,0,1,0,0]) (n:=4) (l:=[]) u8z_ trivial
theorem ub1t_:FO 139 ubtk_ :=
 fnk (c:=uwn_) (l:=[(ubeo_,sub uwn_ [1,0,1,0]),(ubep_,sub uwn_ [1,1,0,1,0])]) u8z_ Tryz.func139 ⟨⟨by kernel_rfl,ubtl_⟩,⟨by kernel_rfl,ubtm_⟩,trivial⟩
def u14_:FSpec:=⟨[.val .str],[.val (.slice .str)],u39_,true⟩
def ubuy_:Env:=mkE [(186,u1x_)] [] [] true
theorem ubof_:EO ubuy_:=enk ⟨ubeg_,trivial⟩
theorem ubeq_:FO 141 u14_ :=
 fnk (c:=ui_ Tryz.f141) (l:=[]) ubof_ Tryz.func141 trivial
def ubba_:FSpec:=⟨[.val (.slice .str),.val .bool],[.val .bool],u8f_,true⟩
def uwo_:CSpec:=⟨⟨[1,7,8,9],[.val .bool,.val (.slice .str),.val (.int .i64),.val (.int .i64)]⟩,[((.exit 0),⟨[],[]⟩),(.ret,⟨[4],[.val .bool]⟩)],([4,6]++seg 9 18),ubae_,[],none⟩
def ubtn_:Env:=mkE [] [(0,uwo_)] [] true
theorem u4u_:EO ubtn_:=enk trivial
def utq_:Code:=ui_ Tryz.f140
theorem ubgr_:CO Tryz.f140.ntmps uwo_ (sub utq_ [1,0,1,0]) :=
 lok (body:=sub utq_ [1,0,1,0,0]) (n:=1) (l:=[]) u4u_ trivial
theorem ubqp_:FO 140 ubba_ :=
 fnk (c:=utq_) (l:=[(uwo_,sub utq_ [1,0,1,0])]) u4u_ Tryz.func140 ⟨⟨by kernel_rfl,ubgr_⟩,trivial⟩
def u15_:FSpec:=⟨[.val (.int .u8),.val .bool],[.val .bool],ubdk_,true⟩
def ubuz_:Env:=mkE [] [] [] true
theorem ubog_:EO ubuz_:=enk trivial
theorem uber_:FO 241 u15_ :=
 fnk (c:=ui_ Tryz.f241) (l:=[]) ubog_ Tryz.func241 trivial
def uzw_:FSpec:=⟨[.val .str],[.val .bool],u6n_,true⟩
def unr_:CSpec:=⟨⟨[0,5,6],[.val .str,.val (.int .i64),.val (.int .i64)]⟩,[((.exit 0),⟨[],[]⟩),(.ret,⟨[2],[.val .bool]⟩)],([2,3]++seg 6 11),uzg_,[],none⟩
def ubjh_:Env:=mkE [(241,u15_)] [(0,unr_)] [] true
theorem uvq_:EO ubjh_:=enk ⟨uber_,trivial⟩
def ukz_:Code:=ui_ Tryz.f188
theorem u7e_:CO Tryz.f188.ntmps unr_ (sub ukz_ [1,0,1,0]) :=
 lok (body:=sub ukz_ [1,0,1,0,0]) (n:=1) (l:=[]) uvq_ trivial
theorem ubgs_:FO 188 uzw_ :=
 fnk (c:=ukz_) (l:=[(unr_,sub ukz_ [1,0,1,0])]) uvq_ Tryz.func188 ⟨⟨by kernel_rfl,u7e_⟩,trivial⟩
def uvr_:FSpec:=⟨[.val (.slice ZZ12)],[.val (.int .i64)],u05_,true⟩
def uk0_:CSpec:=⟨⟨[0,5,6,7],[.val (.slice ZZ12),.val (.slice ZZ12),.val (.int .i64),.val (.int .i64)]⟩,[((.exit 0),⟨[],[]⟩),(.ret,⟨[2],[.val (.int .i64)]⟩)],([2,3,4]++seg 7 29),uu6_,[],none⟩
def ubes_:Env:=mkE [(188,uzw_)] [(0,uk0_)] [] true
theorem ur1_:EO ubes_:=enk ⟨ubgs_,trivial⟩
def uil_:Code:=ui_ Tryz.f143
theorem u3i_:CO Tryz.f143.ntmps uk0_ (sub uil_ [1,0,1,0]) :=
 lok (body:=sub uil_ [1,0,1,0,0]) (n:=1) (l:=[]) ur1_ trivial
theorem ubb5_:FO 143 uvr_ :=
 fnk (c:=uil_) (l:=[(uk0_,sub uil_ [1,0,1,0])]) ur1_ Tryz.func143 ⟨⟨by kernel_rfl,u3i_⟩,trivial⟩
def ubik_:FSpec:=⟨[.val .str],[.val .bool],ubiz_,true⟩
def u16_:CSpec:=⟨⟨[0,5,6],[.val .str,.val (.int .i64),.val (.int .i64)]⟩,[((.exit 0),⟨[],[]⟩),(.ret,⟨[2],[.val .bool]⟩)],([2,3]++seg 6 14),ubh4_,[],none⟩
def ubxo_:Env:=mkE [] [(0,u16_)] [] true
theorem ubbb_:EO ubxo_:=enk trivial
def u0g_:Code:=ui_ Tryz.f144
theorem ubl5_:CO Tryz.f144.ntmps u16_ (sub u0g_ [1,0,1,0]) :=
 lok (body:=sub u0g_ [1,0,1,0,0]) (n:=1) (l:=[]) ubbb_ trivial
theorem ubu0_:FO 144 ubik_ :=
 fnk (c:=u0g_) (l:=[(u16_,sub u0g_ [1,0,1,0])]) ubbb_ Tryz.func144 ⟨⟨by kernel_rfl,ubl5_⟩,trivial⟩
def u4v_:FSpec:=⟨[.val (.agg ZZ17)],[.val (.int .i64)],ubk8_,true⟩
def u80_:CSpec:=⟨⟨[75,76,77],[.own 9 .str false,.val (.int .i64),.val (.int .i64)]⟩,[((.exit 1),⟨[],[]⟩),(.ret,⟨[2],[.val (.int .i64)]⟩)],[2,7,77,78,79,80,81,82,83],ubpr_,[],none⟩
def u5y_:CSpec:=⟨⟨[85,86,87],[.val (.slice ZZ12),.val (.int .i64),.val (.int .i64)]⟩,[((.exit 3),⟨[],[]⟩),(.ret,⟨[2],[.val (.int .i64)]⟩)],([2,9]++seg 87 8),ubk7_,[],none⟩
def ub1u_:Env:=mkE [(138,ubjg_),(139,ubtk_),(140,ubba_),(141,u14_),(142,ufd_),(143,uvr_),(144,ubik_)] [(7,u80_),(10,u5y_)] [] true
theorem u5z_:EO ub1u_:=enk ⟨ubtj_,ub1t_,ubqp_,ubeq_,uhc_,ubb5_,ubu0_,trivial⟩
def uq6_:Code:=ui_ Tryz.f109
theorem ubqq_:CO Tryz.f109.ntmps u80_ (sub uq6_ [1,1,1,1,1,0,1,0]) :=
 lok (body:=sub uq6_ [1,1,1,1,1,0,1,0,0]) (n:=8) (l:=[]) u5z_ trivial
theorem uboh_:CO Tryz.f109.ntmps u5y_ (sub uq6_ [1,1,1,1,1,1,0,1,0]) :=
 lok (body:=sub uq6_ [1,1,1,1,1,1,0,1,0,0]) (n:=11) (l:=[]) u5z_ trivial
theorem ubet_:FO 109 u4v_ :=
 fnk (c:=uq6_) (l:=[(u80_,sub uq6_ [1,1,1,1,1,0,1,0]),(u5y_,sub uq6_ [1,1,1,1,1,1,0,1,0])]) u5z_ Tryz.func109 ⟨⟨by kernel_rfl,ubqq_⟩,⟨by kernel_rfl,uboh_⟩,trivial⟩
def uboi_:FSpec:=⟨[.val (.int .u8)],[.val (.int .i64)],ub1h_,true⟩
def ub67_:Env:=mkE [] [] [] true
theorem ubz2_:EO ub67_:=enk trivial
theorem ubv8_:FO 282 uboi_ :=
 fnk (c:=ui_ Tryz.f282) (l:=[]) ubz2_ Tryz.func282 trivial
def ubp5_:FSpec:=⟨[.val .str,.val (.int .i64)],[.val .bool],ubzt_,true⟩
def u81_:CSpec:=⟨⟨[0,7,8],[.val .str,.val (.int .i64),.val (.int .i64)]⟩,[((.exit 0),⟨[],[]⟩),(.ret,⟨[4],[.val .bool]⟩)],([4,5]++seg 8 21),ubps_,[],none⟩
def ub1v_:Env:=mkE [(282,uboi_)] [(0,u81_)] [] true
theorem ubil_:EO ub1v_:=enk ⟨ubv8_,trivial⟩
def u82_:Code:=ui_ Tryz.f232
theorem ubqr_:CO Tryz.f232.ntmps u81_ (sub u82_ [1,0,1,0]) :=
 lok (body:=sub u82_ [1,0,1,0,0]) (n:=1) (l:=[]) ubil_ trivial
theorem ubz3_:FO 232 ubp5_ :=
 fnk (c:=u82_) (l:=[(u81_,sub u82_ [1,0,1,0])]) ubil_ Tryz.func232 ⟨⟨by kernel_rfl,ubqr_⟩,trivial⟩
def u17_:FSpec:=⟨[.val (.slice ZZ12)],[.val (.int .i64)],ubaf_,true⟩
def upj_:CSpec:=⟨⟨[5,18],[.val (.int .i64),.val .bool]⟩,[(.normal,⟨[5],[.val (.int .i64)]⟩)],[5],u06_,[],none⟩
def upk_:CSpec:=⟨⟨[0,9,10,11],[.val (.slice ZZ12),.val (.slice ZZ12),.val (.int .i64),.val (.int .i64)]⟩,[((.exit 0),⟨[],[]⟩),(.ret,⟨[2],[.val (.int .i64)]⟩)],([2,3,4,5]++seg 11 38),u07_,[],none⟩
def ubl6_:Env:=mkE [(232,ubp5_)] [(3,upj_),(1,upk_)] [] true
theorem uns_:EO ubl6_:=enk ⟨ubz3_,trivial⟩
def ucm_:Code:=ui_ Tryz.f179
theorem u83_:CO Tryz.f179.ntmps upj_ (sub ucm_ [1,1,0,1,0,0,1,1,0,0,1,1,0,1]) :=
 brk (c:=ul8_ (sub ucm_ [1,1,0,1,0,0,1,1,0,0,1,1,0,1])) (x:=sub ucm_ [1,1,0,1,0,0,1,1,0,0,1,1,0,1,0]) (y:=sub ucm_ [1,1,0,1,0,0,1,1,0,0,1,1,0,1,1]) (n:=3) (lx:=[]) (ly:=[]) uns_ trivial trivial
theorem u84_:CO Tryz.f179.ntmps upk_ (sub ucm_ [1,1,0,1,0]) :=
 lok (body:=sub ucm_ [1,1,0,1,0,0]) (n:=2) (l:=[(upj_,sub ucm_ [1,1,0,1,0,0,1,1,0,0,1,1,0,1])]) uns_ ⟨⟨by kernel_rfl,u83_⟩,trivial⟩
theorem ubji_:FO 179 u17_ :=
 fnk (c:=ucm_) (l:=[(upk_,sub ucm_ [1,1,0,1,0])]) uns_ Tryz.func179 ⟨⟨by kernel_rfl,u84_⟩,trivial⟩
def u18_:FSpec:=⟨[.val (.agg ZZ38),.val (.slice .str)],[.val (.int .i64)],ubag_,true⟩
def upl_:CSpec:=⟨⟨[1,2,10,11,12],[.val (.slice .str),.box (.val ZZ38),.val (.slice .str),.val (.int .i64),.val (.int .i64)]⟩,[((.exit 0),⟨[],[]⟩),(.ret,⟨[4],[.val (.int .i64)]⟩)],([4,5,6]++seg 12 27),u08_,[],none⟩
def ubl7_:Env:=mkE [(178,u13_)] [(1,upl_)] [] true
theorem ux4_:EO ubl7_:=enk ⟨ubem_,trivial⟩
def um1_:Code:=ui_ Tryz.f181
theorem u85_:CO Tryz.f181.ntmps upl_ (sub um1_ [1,1,0,1,0]) :=
 lok (body:=sub um1_ [1,1,0,1,0,0]) (n:=2) (l:=[]) ux4_ trivial
theorem ubjj_:FO 181 u18_ :=
 fnk (c:=um1_) (l:=[(upl_,sub um1_ [1,1,0,1,0])]) ux4_ Tryz.func181 ⟨⟨by kernel_rfl,u85_⟩,trivial⟩
def utr_:FSpec:=⟨[.val (.agg ZZ38),.val ZZ2],[.val (.int .i64)],uzh_,true⟩
def uj0_:CSpec:=⟨⟨[3,29,30],[.box (.val ZZ36),.val (.int .i64),.val (.int .i64)]⟩,[((.exit 0),⟨[3],[.box (.val ZZ36)]⟩),(.ret,⟨[4],[.val (.int .i64)]⟩)],([4,7]++seg 30 16),usu_,[],none⟩
def ubb6_:Env:=mkE [(109,u4v_),(178,u13_),(179,u17_),(181,u18_)] [(3,uj0_)] [] true
theorem uqj_:EO ubb6_:=enk ⟨ubet_,ubem_,ubji_,ubjj_,trivial⟩
def uhm_:Code:=ui_ Tryz.f135
theorem u19_:CO Tryz.f135.ntmps uj0_ (sub uhm_ [1,1,1,1,0,1,0]) :=
 lok (body:=sub uhm_ [1,1,1,1,0,1,0,0]) (n:=4) (l:=[]) uqj_ trivial
theorem u86_:FO 135 utr_ :=
 fnk (c:=uhm_) (l:=[(uj0_,sub uhm_ [1,1,1,1,0,1,0])]) uqj_ Tryz.func135 ⟨⟨by kernel_rfl,u19_⟩,trivial⟩
def ubbc_:FSpec:=⟨[.val (.agg ZZ6),.val (.agg ZZ6)],[.val (.int .i64)],ubk9_,true⟩
def ubto_:Env:=mkE [(30,ur0_),(31,ufe_),(46,udc_)] [] [] true
theorem ubl8_:EO ubto_:=enk ⟨uxx_,ug8_,ueu_,trivial⟩
theorem ubqs_:FO 182 ubbc_ :=
 fnk (c:=ui_ Tryz.f182) (l:=[]) ubl8_ Tryz.func182 trivial
def u2a_:FSpec:=⟨[.val (.agg ZZ38),.val ZZ35],[.val (.int .i64)],ubah_,true⟩
def upm_:CSpec:=⟨⟨[1,2,7,8,9],[.val ZZ35,.box (.val ZZ38),.val ZZ35,.val (.int .i64),.val (.int .i64)]⟩,[((.exit 0),⟨[],[]⟩),(.ret,⟨[4],[.val (.int .i64)]⟩)],([4,5,6]++seg 9 54),u09_,[],none⟩
def ubl9_:Env:=mkE [(182,ubbc_)] [(0,upm_)] [] true
theorem ux5_:EO ubl9_:=enk ⟨ubqs_,trivial⟩
def um2_:Code:=ui_ Tryz.f136
theorem u87_:CO Tryz.f136.ntmps upm_ (sub um2_ [1,0,1,0]) :=
 lok (body:=sub um2_ [1,0,1,0,0]) (n:=1) (l:=[]) ux5_ trivial
theorem ubjk_:FO 136 u2a_ :=
 fnk (c:=um2_) (l:=[(upm_,sub um2_ [1,0,1,0])]) ux5_ Tryz.func136 ⟨⟨by kernel_rfl,u87_⟩,trivial⟩
def u4w_:FSpec:=⟨[.tr (.pr (.val .bool) (.omap .str .bool)),.val (.agg ZZ13)],[.val (.int .i64)],ubdl_,true⟩
def uq7_:CSpec:=⟨⟨[2,3,36,37,38],[.box (.pr (.val .bool) (.omap .str .bool)),.box (.val ZZ13),.val (.slice ZZ2),.val (.int .i64),.val (.int .i64)]⟩,[((.exit 1),⟨[2,3],[.box (.pr (.val .bool) (.omap .str .bool)),.box (.val ZZ13)]⟩),(.ret,⟨[4],[.val (.int .i64)]⟩)],([4,5,6,7]++seg 38 35),u4a_,[],none⟩
def uboj_:Env:=mkE [(134,ubp2_),(135,utr_),(136,u2a_)] [(2,uq7_)] [43,45,79,82] true
theorem uzx_:EO uboj_:=enk ⟨ubz0_,u86_,ubjk_,trivial⟩
def uoq_:Code:=ui_ Tryz.f104
theorem ubb7_:CO Tryz.f104.ntmps uq7_ (sub uoq_ [1,1,0,1,0]) :=
 lok (body:=sub uoq_ [1,1,0,1,0,0]) (n:=3) (l:=[]) uzx_ trivial
theorem ubma_:FO 104 u4w_ :=
 fnk (c:=uoq_) (l:=[(uq7_,sub uoq_ [1,1,0,1,0])]) uzx_ Tryz.func104 ⟨⟨by kernel_rfl,ubb7_⟩,trivial⟩
def u88_:FSpec:=⟨[.val (.agg ZZ13)],[.val (.int .i64)],ubrv_,true⟩
def ub4a_:Env:=mkE [(104,u4w_)] [] [4] true
theorem ubxp_:EO ub4a_:=enk ⟨ubma_,trivial⟩
theorem ubjl_:FO 80 u88_ :=
 fnk (c:=ui_ Tryz.f80) (l:=[]) ubxp_ Tryz.func80 trivial
def u2b_:FSpec:=⟨[.val .str],[.val .bool],u4b_,true⟩
def uy1_:CSpec:=⟨⟨[0,6,7],[.val .str,.val (.int .i64),.val (.int .i64)]⟩,[((.exit 0),⟨[],[]⟩),(.ret,⟨[2],[.val .bool]⟩)],([2,3,4]++seg 7 42),ubdm_,[],none⟩
def ubu1_:Env:=mkE [] [(0,uy1_)] [] true
theorem u7f_:EO ubu1_:=enk trivial
def uxg_:Code:=ui_ Tryz.f149
theorem ubjm_:CO Tryz.f149.ntmps uy1_ (sub uxg_ [1,0,1,0]) :=
 lok (body:=sub uxg_ [1,0,1,0,0]) (n:=1) (l:=[]) u7f_ trivial
theorem ubeu_:FO 149 u2b_ :=
 fnk (c:=uxg_) (l:=[(uy1_,sub uxg_ [1,0,1,0])]) u7f_ Tryz.func149 ⟨⟨by kernel_rfl,ubjm_⟩,trivial⟩
def uts_:FSpec:=⟨[.val (.agg ZZ3)],[.val (.int .i64)],uzi_,true⟩
def uj1_:CSpec:=⟨⟨[1,10,11,12],[.box (.val ZZ3),.val (.slice .str),.val (.int .i64),.val (.int .i64)]⟩,[((.exit 0),⟨[],[]⟩),(.ret,⟨[2],[.val (.int .i64)]⟩)],([2,3,4]++seg 12 28),usv_,[],none⟩
def ubb8_:Env:=mkE [(149,u2b_)] [(1,uj1_)] [] true
theorem uqk_:EO ubb8_:=enk ⟨ubeu_,trivial⟩
def uhn_:Code:=ui_ Tryz.f150
theorem u2c_:CO Tryz.f150.ntmps uj1_ (sub uhn_ [1,1,0,1,0]) :=
 lok (body:=sub uhn_ [1,1,0,1,0,0]) (n:=2) (l:=[]) uqk_ trivial
theorem u89_:FO 150 uts_ :=
 fnk (c:=uhn_) (l:=[(uj1_,sub uhn_ [1,1,0,1,0])]) uqk_ Tryz.func150 ⟨⟨by kernel_rfl,u2c_⟩,trivial⟩
def u4x_:FSpec:=⟨[],[.val (.arr 6 (.map (.int .u8) (.int .i64)))],ubdn_,true⟩
def ubok_:Env:=mkE [] [] [] true
theorem ubgt_:EO ubok_:=enk trivial
theorem ubmb_:FO 173 u4x_ :=
 fnk (c:=ui_ Tryz.f173) (l:=[]) ubgt_ Tryz.func173 trivial
def uy2_:FSpec:=⟨[.val .str],[.val (.int .i64),.val (.int .i64)],u8i_,true⟩
def uwp_:CSpec:=⟨⟨[0,5,16,17],[.val .str,.box (.val (.arr 6 (.int .i64))),.val (.arr 6 (.map (.int .u8) (.int .i64))),.val (.int .i64)]⟩,[((.exit 0),⟨[5],[.box (.val (.arr 6 (.int .i64)))]⟩),(.ret,⟨[2,3],[.val (.int .i64),.val (.int .i64)]⟩)],([2,3,6,7,8,9]++seg 17 18),ubai_,[],none⟩
def ubtp_:Env:=mkE [(173,u4x_)] [(1,uwp_)] [] true
theorem u4y_:EO ubtp_:=enk ⟨ubmb_,trivial⟩
def utt_:Code:=ui_ Tryz.f124
theorem ubgu_:CO Tryz.f124.ntmps uwp_ (sub utt_ [1,1,1,1,0,1,0]) :=
 lok (body:=sub utt_ [1,1,1,1,0,1,0,0]) (n:=2) (l:=[]) u4y_ trivial
theorem ubbd_:FO 124 uy2_ :=
 fnk (c:=utt_) (l:=[(uwp_,sub utt_ [1,1,1,1,0,1,0])]) u4y_ Tryz.func124 ⟨⟨by kernel_rfl,ubgu_⟩,trivial⟩
def ubev_:FSpec:=⟨[.val .str],[.val .str],ubdo_,true⟩
def u9a_:CSpec:=⟨⟨[3,9,10],[.own 5 (.int .u8) true,.val (.int .i64),.val (.int .i64)]⟩,[((.exit 0),⟨[3],[.own 5 (.int .u8) true]⟩)],([4,5]++seg 10 18),ubpt_,[(8,3)],none⟩
def ub1w_:Env:=mkE [] [(0,u9a_)] [7] true
theorem ubim_:EO ub1w_:=enk trivial
def u9b_:Code:=ui_ Tryz.f147
theorem ubqt_:CO Tryz.f147.ntmps u9a_ (sub u9b_ [1,1,0,1,0]) :=
 lok (body:=sub u9b_ [1,1,0,1,0,0]) (n:=1) (l:=[]) ubim_ trivial
theorem ubp6_:FO 147 ubev_ :=
 fnk (c:=u9b_) (l:=[(u9a_,sub u9b_ [1,1,0,1,0])]) ubim_ Tryz.func147 ⟨⟨by kernel_rfl,ubqt_⟩,trivial⟩
def ugc_:FSpec:=⟨[.box (.val ZZ24),.val (.int .i64)],[],ug9_,true⟩
def ubol_:Env:=mkE [] [] [] true
theorem ubgv_:EO ubol_:=enk trivial
theorem uim_:FO 238 ugc_ :=
 fnk (c:=ui_ Tryz.f238) (l:=[]) ubgv_ Tryz.func238 trivial
def uin_:FSpec:=⟨[.val (.ptr (.agg ZZ24))],[.val (.int .u8)],ufs_,true⟩
def ubom_:Env:=mkE [] [] [] true
theorem ubgw_:EO ubom_:=enk trivial
theorem um3_:FO 237 uin_ :=
 fnk (c:=ui_ Tryz.f237) (l:=[]) ubgw_ Tryz.func237 trivial
def u2d_:FSpec:=⟨[.val (.int .u8)],[.val .bool],ubdp_,true⟩
def ubu2_:Env:=mkE [] [] [] true
theorem ubon_:EO ubu2_:=enk trivial
theorem ubew_:FO 190 u2d_ :=
 fnk (c:=ui_ Tryz.f190) (l:=[]) ubon_ Tryz.func190 trivial
def u4z_:FSpec:=⟨[.box (.val ZZ24),.val .bool],[.val .str],ubdq_,true⟩
def uq8_:CSpec:=⟨⟨[0,7],[.box (.val ZZ24),.val (.int .i64)]⟩,[((.exit 0),⟨[0],[.box (.val ZZ24)]⟩),(.ret,⟨[0,4],[.box (.val ZZ24),.val .str]⟩)],([4,5]++seg 7 30),u4c_,[],none⟩
def uq9_:CSpec:=⟨⟨[0],[.box (.val ZZ24)]⟩,[((.exit 2),⟨[0],[.box (.val ZZ24)]⟩)],(seg 53 29),u4d_,[],none⟩
def ura_:CSpec:=⟨⟨[0,45],[.box (.val ZZ24),.val .bool]⟩,[(.normal,⟨[0],[.box (.val ZZ24)]⟩)],(seg 46 36),u4e_,[],none⟩
def uboo_:Env:=mkE [(147,ubev_),(190,u2d_),(237,uin_),(238,ugc_)] [(0,uq8_),(4,uq9_),(3,ura_)] [] true
theorem uja_:EO uboo_:=enk ⟨ubp6_,ubew_,um3_,uim_,trivial⟩
def ubl_:Code:=ui_ Tryz.f235
theorem ubb9_:CO Tryz.f235.ntmps uq8_ (sub ubl_ [1,0,1,0]) :=
 lok (body:=sub ubl_ [1,0,1,0,0]) (n:=1) (l:=[]) uja_ trivial
theorem ubca_:CO Tryz.f235.ntmps uq9_ (sub ubl_ [1,1,1,0,1,1,0]) :=
 lok (body:=sub ubl_ [1,1,1,0,1,1,0,0]) (n:=5) (l:=[]) uja_ trivial
theorem ubcb_:CO Tryz.f235.ntmps ura_ (sub ubl_ [1,1,1,0,1]) :=
 brk (c:=ul8_ (sub ubl_ [1,1,1,0,1])) (x:=sub ubl_ [1,1,1,0,1,0]) (y:=sub ubl_ [1,1,1,0,1,1]) (n:=3) (lx:=[]) (ly:=[(uq9_,sub ubl_ [1,1,1,0,1,1,0])]) uja_ trivial ⟨⟨by kernel_rfl,ubca_⟩,trivial⟩
theorem ubmc_:FO 235 u4z_ :=
 fnk (c:=ubl_) (l:=[(uq8_,sub ubl_ [1,0,1,0]),(ura_,sub ubl_ [1,1,1,0,1])]) uja_ Tryz.func235 ⟨⟨by kernel_rfl,ubb9_⟩,⟨by kernel_rfl,ubcb_⟩,trivial⟩
def u2e_:FSpec:=⟨[.box (.val ZZ24)],[.val (.int .u8),.val .bool],ubaj_,true⟩
def upn_:CSpec:=⟨⟨[0,6,7,63],[.box (.val ZZ24),.val (.int .i64),.val (.int .i64),.val .bool]⟩,[(.normal,⟨[0,7],[.box (.val ZZ24),.val (.int .i64)]⟩)],([7]++seg 64 12),u1a_,[],none⟩
def upo_:CSpec:=⟨⟨[0,5,6],[.box (.val ZZ24),.val (.int .i64),.val (.int .i64)]⟩,[((.exit 0),⟨[0,5],[.box (.val ZZ24),.val (.int .i64)]⟩),(.ret,⟨[0,2,3],[.box (.val ZZ24),.val (.int .u8),.val .bool]⟩)],([2,3,5,6,7]++seg 48 42),u1b_,[],none⟩
def ubmd_:Env:=mkE [(142,ufd_),(238,ugc_),(282,uboi_)] [(5,upn_),(3,upo_)] [] true
theorem unt_:EO ubmd_:=enk ⟨uhc_,uim_,ubv8_,trivial⟩
def ucn_:Code:=ui_ Tryz.f289
theorem u9c_:CO Tryz.f289.ntmps upn_ (sub ucn_ [1,1,1,1,1,0,1,0,0,1,0,0,1,0,1]) :=
 brk (c:=ul8_ (sub ucn_ [1,1,1,1,1,0,1,0,0,1,0,0,1,0,1])) (x:=sub ucn_ [1,1,1,1,1,0,1,0,0,1,0,0,1,0,1,0]) (y:=sub ucn_ [1,1,1,1,1,0,1,0,0,1,0,0,1,0,1,1]) (n:=5) (lx:=[]) (ly:=[]) unt_ trivial trivial
theorem u9d_:CO Tryz.f289.ntmps upo_ (sub ucn_ [1,1,1,1,1,0,1,0]) :=
 lok (body:=sub ucn_ [1,1,1,1,1,0,1,0,0]) (n:=4) (l:=[(upn_,sub ucn_ [1,1,1,1,1,0,1,0,0,1,0,0,1,0,1])]) unt_ ⟨⟨by kernel_rfl,u9c_⟩,trivial⟩
theorem ubjn_:FO 289 u2e_ :=
 fnk (c:=ucn_) (l:=[(upo_,sub ucn_ [1,1,1,1,1,0,1,0])]) unt_ Tryz.func289 ⟨⟨by kernel_rfl,u9d_⟩,trivial⟩
def um4_:FSpec:=⟨[.box (.val ZZ24)],[.val .str],unm_,true⟩
def urb_:CSpec:=⟨⟨[0,3],[.box (.val ZZ24),.own 5 (.int .u8) false]⟩,[((.exit 0),⟨[0,3],[.box (.val ZZ24),.own 5 (.int .u8) false]⟩)],(seg 3 19),u4f_,[],none⟩
def ubop_:Env:=mkE [(238,ugc_),(289,u2e_)] [(0,urb_)] [] true
theorem uzy_:EO ubop_:=enk ⟨uim_,ubjn_,trivial⟩
def uor_:Code:=ui_ Tryz.f390
theorem ubcc_:CO Tryz.f390.ntmps urb_ (sub uor_ [1,1,0,0]) :=
 lok (body:=sub uor_ [1,1,0,0,0]) (n:=1) (l:=[]) uzy_ trivial
theorem utu_:FO 390 um4_ :=
 fnk (c:=uor_) (l:=[(urb_,sub uor_ [1,1,0,0])]) uzy_ Tryz.func390 ⟨⟨by kernel_rfl,ubcc_⟩,trivial⟩
def u2f_:FSpec:=⟨[.box (.val ZZ24)],[.val (.slice .str)],uyu_,true⟩
def upp_:CSpec:=⟨⟨[0,3],[.box (.val ZZ24),.own 9 .str false]⟩,[((.exit 0),⟨[0,3],[.box (.val ZZ24),.own 9 .str false]⟩)],([3]++seg 7 22),u1c_,[],none⟩
def ubme_:Env:=mkE [(237,uin_),(390,um4_)] [(0,upp_)] [] true
theorem ux6_:EO ubme_:=enk ⟨um3_,utu_,trivial⟩
def um5_:Code:=ui_ Tryz.f389
theorem u9e_:CO Tryz.f389.ntmps upp_ (sub um5_ [1,1,0,0]) :=
 lok (body:=sub um5_ [1,1,0,0,0]) (n:=1) (l:=[]) ux6_ trivial
theorem ubjo_:FO 389 u2f_ :=
 fnk (c:=um5_) (l:=[(upp_,sub um5_ [1,1,0,0])]) ux6_ Tryz.func389 ⟨⟨by kernel_rfl,u9e_⟩,trivial⟩
def utv_:FSpec:=⟨[.box (.val ZZ24)],[.val ZZ12],uzj_,true⟩
def uj2_:CSpec:=⟨⟨[0,3],[.box (.val ZZ24),.val (.int .i64)]⟩,[((.exit 0),⟨[0],[.box (.val ZZ24)]⟩)],(seg 9 35),usw_,[],none⟩
def ubcd_:Env:=mkE [(237,uin_),(238,ugc_),(241,u15_),(390,um4_)] [(0,uj2_)] [] true
theorem uql_:EO ubcd_:=enk ⟨um3_,uim_,uber_,utu_,trivial⟩
def uho_:Code:=ui_ Tryz.f391
theorem u2g_:CO Tryz.f391.ntmps uj2_ (sub uho_ [1,1,0,0]) :=
 lok (body:=sub uho_ [1,1,0,0,0]) (n:=1) (l:=[]) uql_ trivial
theorem u9f_:FO 391 utv_ :=
 fnk (c:=uho_) (l:=[(uj2_,sub uho_ [1,1,0,0])]) uql_ Tryz.func391 ⟨⟨by kernel_rfl,u2g_⟩,trivial⟩
def u40_:FSpec:=⟨[.box (.val ZZ24)],[.tr (.pr (.val .str) (.pr (.val .str) (.pr (.val .str) (.pr (.val .str) (.pr (.own 278 ZZ12 true) (.val .str))))))],ubdr_,false⟩
def urc_:CSpec:=⟨⟨[0,3,40],[.box (.val ZZ24),.box (.pr (.val .str) (.pr (.val .str) (.pr (.val .str) (.pr (.val .str) (.pr (.own 278 ZZ12 true) (.val .str)))))),.val .bool]⟩,[(.normal,⟨[0,3],[.box (.val ZZ24),.box (.pr (.val .str) (.pr (.val .str) (.pr (.val .str) (.pr (.val .str) (.pr (.own 278 ZZ12 true) (.val .str))))))]⟩)],(seg 41 10),u4g_,[],none⟩
def urd_:CSpec:=⟨⟨[0,3,5],[.box (.val ZZ24),.box (.pr (.val .str) (.pr (.val .str) (.pr (.val .str) (.pr (.val .str) (.pr (.own 278 ZZ12 true) (.val .str)))))),.val (.int .u8)]⟩,[((.exit 0),⟨[0,3],[.box (.val ZZ24),.box (.pr (.val .str) (.pr (.val .str) (.pr (.val .str) (.pr (.val .str) (.pr (.own 278 ZZ12 true) (.val .str))))))]⟩)],([5]++seg 51 37),u4h_,[],none⟩
def ure_:CSpec:=⟨⟨[0,3,97],[.box (.val ZZ24),.box (.pr (.val .str) (.pr (.val .str) (.pr (.val .str) (.pr (.val .str) (.pr (.own 278 ZZ12 true) (.val .str)))))),.val .bool]⟩,[(.normal,⟨[0,3],[.box (.val ZZ24),.box (.pr (.val .str) (.pr (.val .str) (.pr (.val .str) (.pr (.val .str) (.pr (.own 278 ZZ12 true) (.val .str))))))]⟩)],(seg 98 11),u4i_,[],none⟩
def uboq_:Env:=mkE [(189,ul6_),(235,u4z_),(237,uin_),(238,ugc_),(389,u2f_),(390,um4_),(391,utv_)] [(1,urc_),(2,urd_),(4,ure_)] [2,8,14,132] false
theorem ujb_:EnvOK Tryz.prog false uboq_:=enk ⟨uqh_,ubmc_,um3_,uim_,ubjo_,utu_,u9f_,trivial⟩
def u7_:Code:=ui_ Tryz.f348
theorem ubce_:CutOK Tryz.prog false Tryz.f348.ntmps urc_ (sub u7_ [1,1,1,1,1,0,1]) :=
 brk (c:=ul8_ (sub u7_ [1,1,1,1,1,0,1])) (x:=sub u7_ [1,1,1,1,1,0,1,0]) (y:=sub u7_ [1,1,1,1,1,0,1,1]) (n:=1) (lx:=[]) (ly:=[]) ujb_ trivial trivial
theorem ubcf_:CutOK Tryz.prog false Tryz.f348.ntmps urd_ (sub u7_ [1,1,1,1,1,1,0,1,0]) :=
 lok (body:=sub u7_ [1,1,1,1,1,1,0,1,0,0]) (n:=3) (l:=[]) ujb_ trivial
theorem ubcg_:CutOK Tryz.prog false Tryz.f348.ntmps ure_ (sub u7_ [1,1,1,1,1,1,1,0,1]) :=
 brk (c:=ul8_ (sub u7_ [1,1,1,1,1,1,1,0,1])) (x:=sub u7_ [1,1,1,1,1,1,1,0,1,0]) (y:=sub u7_ [1,1,1,1,1,1,1,0,1,1]) (n:=4) (lx:=[]) (ly:=[]) ujb_ trivial trivial
theorem ubmf_:FO 348 u40_ :=
 fnk (c:=u7_) (l:=[(urc_,sub u7_ [1,1,1,1,1,0,1]),(urd_,sub u7_ [1,1,1,1,1,1,0,1,0]),(ure_,sub u7_ [1,1,1,1,1,1,1,0,1])]) ujb_ Tryz.func348 ⟨⟨by kernel_rfl,ubce_⟩,⟨by kernel_rfl,ubcf_⟩,⟨by kernel_rfl,ubcg_⟩,trivial⟩
def ugd_:FSpec:=⟨[.io 278 ZZ12,.val (.int .i64),.val (.int .i64),.hof false ZZ32 (.int .i64)],[],udp_,false⟩
def ucu_:CSpec:=⟨⟨[0,1,3,9],[.own 278 ZZ12 true,.val (.int .i64),.hof false ZZ32 (.int .i64),.val (.int .i64)]⟩,[((.exit 2),⟨[0],[.own 278 ZZ12 true]⟩)],([9]++seg 18 35),uf5_,[],none⟩
def ucv_:CSpec:=⟨⟨[0,1,2,3,8],[.own 278 ZZ12 true,.val (.int .i64),.val (.int .i64),.hof false ZZ32 (.int .i64),.val (.int .i64)]⟩,[((.exit 0),⟨[0],[.own 278 ZZ12 true]⟩)],([8,9]++seg 12 41),uf6_,[],none⟩
def upq_:Env:=mkE [] [(2,ucu_),(0,ucv_)] [] false
theorem uct_:EnvOK Tryz.prog false upq_:=enk trivial
def uv_:Code:=ui_ Tryz.f409
theorem ulw_:CutOK Tryz.prog false Tryz.f409.ntmps ucu_ (sub uv_ [1,0,0,1,0,0,1,0]) :=
 lok (body:=sub uv_ [1,0,0,1,0,0,1,0,0]) (n:=3) (l:=[]) uct_ trivial
theorem ulx_:CutOK Tryz.prog false Tryz.f409.ntmps ucv_ (sub uv_ [1,0]) :=
 lok (body:=sub uv_ [1,0,0]) (n:=1) (l:=[(ucu_,sub uv_ [1,0,0,1,0,0,1,0])]) uct_ ⟨⟨by kernel_rfl,ulw_⟩,trivial⟩
theorem uos_:FO 409 ugd_ :=
 fnk (c:=uv_) (l:=[(ucv_,sub uv_ [1,0])]) uct_ Tryz.func409 ⟨⟨by kernel_rfl,ulx_⟩,trivial⟩
def uhy_:FSpec:=⟨[.io 278 ZZ12,.val (.int .i64),.val (.int .i64),.val (.int .i64),.hof false ZZ32 (.int .i64)],[],uc7_,true⟩
def uds_:CSpec:=⟨⟨[0,1,2,3,10],[.own 278 ZZ12 true,.val (.int .i64),.val (.int .i64),.val (.int .i64),.val (.int .i64)]⟩,[((.exit 0),⟨[0],[.own 278 ZZ12 true]⟩)],(seg 10 28),uhr_,[],none⟩
def utw_:Env:=mkE [] [(0,uds_)] [] true
theorem ug5_:EO utw_:=enk trivial
def uco_:Code:=ui_ Tryz.f435
theorem uot_:CO Tryz.f435.ntmps uds_ (sub uco_ [1,0]) :=
 lok (body:=sub uco_ [1,0,0]) (n:=1) (l:=[]) ug5_ trivial
theorem usj_:FO 435 uhy_ :=
 fnk (c:=uco_) (l:=[(uds_,sub uco_ [1,0])]) ug5_ Tryz.func435 ⟨⟨by kernel_rfl,uot_⟩,trivial⟩
def uj3_:FSpec:=⟨[.io 278 ZZ12,.val (.int .i64),.val (.int .i64),.val (.int .i64),.hof false ZZ32 (.int .i64)],[],umt_,true⟩
def uex_:CSpec:=⟨⟨[0,2,4,10,11],[.own 278 ZZ12 true,.val (.int .i64),.hof false ZZ32 (.int .i64),.val (.int .i64),.val (.int .i64)]⟩,[((.exit 0),⟨[0,10],[.own 278 ZZ12 true,.val (.int .i64)]⟩)],([10,11]++seg 18 32),ujo_,[],none⟩
def ux7_:Env:=mkE [(435,uhy_)] [(0,uex_)] [] true
theorem uio_:EO ux7_:=enk ⟨usj_,trivial⟩
def udd_:Code:=ui_ Tryz.f424
theorem urf_:CO Tryz.f424.ntmps uex_ (sub udd_ [1,1,0,0]) :=
 lok (body:=sub udd_ [1,1,0,0,0]) (n:=1) (l:=[]) uio_ trivial
theorem uwq_:FO 424 uj3_ :=
 fnk (c:=udd_) (l:=[(uex_,sub udd_ [1,1,0,0])]) uio_ Tryz.func424 ⟨⟨by kernel_rfl,urf_⟩,trivial⟩
def ug_ (n:Nat):FSpec:=⟨[.io 278 ZZ12,.val (.int .i64),.val (.int .i64),.val (.int .i64),.hof false ZZ32 (.int .i64)],[],up_ n,false⟩
def uip_:FSpec:=⟨[.io 278 ZZ12,.val (.int .i64),.val (.int .i64),.val (.int .i64),.hof false ZZ32 (.int .i64)],[],uft_,false⟩
def uiq_ (n:Nat):List (Nat×FSpec):=[(410,(ug_ n)),(424,uj3_)]
theorem uqm_ (n:Nat) (ih:FO 410 (ug_ n)):FsOK Tryz.prog (uiq_ n):=⟨ih,uwq_,trivial⟩
def ued_ (n:Nat):CSpec:=⟨⟨[0,1,4,10,11],[.own 278 ZZ12 true,.val (.int .i64),.hof false ZZ32 (.int .i64),.val (.int .i64),.val (.int .i64)]⟩,[((.exit 0),⟨[0,10],[.own 278 ZZ12 true,.val (.int .i64)]⟩)],([10,11,12]++seg 31 23),(uie_ (up_ n)),[],none⟩
def uee_ (n:Nat):CSpec:=⟨⟨[0,10,13],[.own 278 ZZ12 true,.val (.int .i64),.val (.int .i64)]⟩,[((.exit 2),⟨[0],[.own 278 ZZ12 true]⟩)],([13]++seg 55 22),(uif_ (up_ n)),[],none⟩
def uef_ (n:Nat):CSpec:=⟨⟨[0,2,4,14,15],[.own 278 ZZ12 true,.val (.int .i64),.hof false ZZ32 (.int .i64),.val (.int .i64),.val (.int .i64)]⟩,[((.exit 4),⟨[0,14],[.own 278 ZZ12 true,.val (.int .i64)]⟩)],([14,15,16]++seg 83 24),(uig_ (up_ n)),[],none⟩
def udt_ (n:Nat):CSpec:=⟨⟨[0,14,17],[.own 278 ZZ12 true,.val (.int .i64),.val (.int .i64)]⟩,[((.exit 6),⟨[0],[.own 278 ZZ12 true]⟩)],([17]++seg 108 21),(uhs_ (up_ n)),[],none⟩
def udu_ (n:Nat):CSpec:=⟨⟨[1,2,3,18,19,140],[.val (.int .i64),.val (.int .i64),.val (.int .i64),.val (.int .i64),.val (.int .i64),.val .bool]⟩,[(.normal,⟨[20,21],[.val (.int .i64),.val (.int .i64)]⟩)],[20,21,141,142,143,144,145,146],(uht_ (up_ n)),[],none⟩
def udv_ (n:Nat):CSpec:=⟨⟨[0,4,20,21,22],[.own 278 ZZ12 true,.hof false ZZ32 (.int .i64),.val (.int .i64),.val (.int .i64),.val (.int .i64)]⟩,[((.exit 8),⟨[0,20],[.own 278 ZZ12 true,.val (.int .i64)]⟩)],([20,21,23]++seg 149 26),(uhu_ (up_ n)),[],none⟩
def udw_ (n:Nat):CSpec:=⟨⟨[0,2,4,20,24,185],[.own 278 ZZ12 true,.val (.int .i64),.hof false ZZ32 (.int .i64),.val (.int .i64),.val (.int .i64),.val .bool]⟩,[(.normal,⟨[0],[.own 278 ZZ12 true]⟩)],[186,187,188,189,190,191],(uhv_ (up_ n)),[],none⟩
def udx_ (n:Nat):CSpec:=⟨⟨[0,1,4,18,20,199],[.own 278 ZZ12 true,.val (.int .i64),.hof false ZZ32 (.int .i64),.val (.int .i64),.val (.int .i64),.val .bool]⟩,[(.normal,⟨[0],[.own 278 ZZ12 true]⟩)],[200,201,202,203,204,205],(uhw_ (up_ n)),[],none⟩
def uuz_ (n:Nat):Env:=mkE (uiq_ n) [(1,(ued_ n)),(4,(uee_ n)),(7,(uef_ n)),(10,(udt_ n)),(12,(udu_ n)),(13,(udv_ n)),(16,(udw_ n)),(17,(udx_ n))] [] false
theorem ur_ (n:Nat) (ih:FO 410 (ug_ n)):EnvOK Tryz.prog false (uuz_ n):=enk (uqm_ n ih)
def ub_:Code:=ui_ Tryz.f410
theorem upr_ (n:Nat) (ih:FO 410 (ug_ n)):CutOK Tryz.prog false Tryz.f410.ntmps (ued_ n) (sub ub_ [0,1,0,1,1,0,0]) :=
 lok (body:=sub ub_ [0,1,0,1,1,0,0,0]) (n:=2) (l:=[]) (ur_ n ih) trivial
theorem ups_ (n:Nat) (ih:FO 410 (ug_ n)):CutOK Tryz.prog false Tryz.f410.ntmps (uee_ n) (sub ub_ [0,1,0,1,1,1,0,1,0]) :=
 lok (body:=sub ub_ [0,1,0,1,1,1,0,1,0,0]) (n:=5) (l:=[]) (ur_ n ih) trivial
theorem upt_ (n:Nat) (ih:FO 410 (ug_ n)):CutOK Tryz.prog false Tryz.f410.ntmps (uef_ n) (sub ub_ [1,0,1,0,1,1,0,0]) :=
 lok (body:=sub ub_ [1,0,1,0,1,1,0,0,0]) (n:=8) (l:=[]) (ur_ n ih) trivial
theorem uou_ (n:Nat) (ih:FO 410 (ug_ n)):CutOK Tryz.prog false Tryz.f410.ntmps (udt_ n) (sub ub_ [1,0,1,0,1,1,1,0,1,0]) :=
 lok (body:=sub ub_ [1,0,1,0,1,1,1,0,1,0,0]) (n:=11) (l:=[]) (ur_ n ih) trivial
theorem uov_ (n:Nat) (ih:FO 410 (ug_ n)):CutOK Tryz.prog false Tryz.f410.ntmps (udu_ n) (sub ub_ [1,1,1,1,1,0,1]) :=
 brk (c:=ul8_ (sub ub_ [1,1,1,1,1,0,1])) (x:=sub ub_ [1,1,1,1,1,0,1,0]) (y:=sub ub_ [1,1,1,1,1,0,1,1]) (n:=12) (lx:=[]) (ly:=[]) (ur_ n ih) trivial trivial
theorem uow_ (n:Nat) (ih:FO 410 (ug_ n)):CutOK Tryz.prog false Tryz.f410.ntmps (udv_ n) (sub ub_ [1,1,1,1,1,1,1,0,0]) :=
 lok (body:=sub ub_ [1,1,1,1,1,1,1,0,0,0]) (n:=14) (l:=[]) (ur_ n ih) trivial
theorem uox_ (n:Nat) (ih:FO 410 (ug_ n)):CutOK Tryz.prog false Tryz.f410.ntmps (udw_ n) (sub ub_ [1,1,1,1,1,1,1,1,1,0,1]) :=
 brk (c:=ul8_ (sub ub_ [1,1,1,1,1,1,1,1,1,0,1])) (x:=sub ub_ [1,1,1,1,1,1,1,1,1,0,1,0]) (y:=sub ub_ [1,1,1,1,1,1,1,1,1,0,1,1]) (n:=16) (lx:=[]) (ly:=[]) (ur_ n ih) trivial trivial
theorem uoy_ (n:Nat) (ih:FO 410 (ug_ n)):CutOK Tryz.prog false Tryz.f410.ntmps (udx_ n) (sub ub_ [1,1,1,1,1,1,1,1,1,1,0,1]) :=
 brk (c:=ul8_ (sub ub_ [1,1,1,1,1,1,1,1,1,1,0,1])) (x:=sub ub_ [1,1,1,1,1,1,1,1,1,1,0,1,0]) (y:=sub ub_ [1,1,1,1,1,1,1,1,1,1,0,1,1]) (n:=17) (lx:=[]) (ly:=[]) (ur_ n ih) trivial trivial
theorem urg_ (n:Nat) (ih:FO 410 (ug_ n)):FO 410 (ug_ (n+1)) :=
 fnk (c:=ub_) (l:=[((ued_ n),sub ub_ [0,1,0,1,1,0,0]),((uee_ n),sub ub_ [0,1,0,1,1,1,0,1,0]),((uef_ n),sub ub_ [1,0,1,0,1,1,0,0]),((udt_ n),sub ub_ [1,0,1,0,1,1,1,0,1,0]),((udu_ n),sub ub_ [1,1,1,1,1,0,1]),((udv_ n),sub ub_ [1,1,1,1,1,1,1,0,0]),((udw_ n),sub ub_ [1,1,1,1,1,1,1,1,1,0,1]),((udx_ n),sub ub_ [1,1,1,1,1,1,1,1,1,1,0,1])]) (ur_ n ih) Tryz.func410 ⟨⟨by kernel_rfl,(upr_ n ih)⟩,⟨by kernel_rfl,(ups_ n ih)⟩,⟨by kernel_rfl,(upt_ n ih)⟩,⟨by kernel_rfl,(uou_ n ih)⟩,⟨by kernel_rfl,(uov_ n ih)⟩,⟨by kernel_rfl,(uow_ n ih)⟩,⟨by kernel_rfl,(uox_ n ih)⟩,⟨by kernel_rfl,(uoy_ n ih)⟩,trivial⟩
theorem urh_:∀ n,FO 410 (ug_ n):=fun n=>Nat.rec ⟨⟨Tryz.f410,ub_,Tryz.func410,by kernel_rfl,by kernel_rfl⟩,fun w I v args bs _ _ _ r hr=>by cases hr⟩ (fun n ih=>urg_ n ih) n
theorem utx_:FO 410 uip_:=urh_ 100
def uj4_:FSpec:=⟨[.io 278 ZZ12,.val (.int .i64),.hof false ZZ32 (.int .i64)],[],umu_,false⟩
def uey_:CSpec:=⟨⟨[0,1,2,6,7,8],[.own 278 ZZ12 true,.val (.int .i64),.hof false ZZ32 (.int .i64),.val (.int .i64),.val (.int .i64),.val (.int .i64)]⟩,[((.exit 0),⟨[0,7],[.own 278 ZZ12 true,.val (.int .i64)]⟩)],([7,8]++seg 11 12),ujp_,[],none⟩
def uez_:CSpec:=⟨⟨[0,1,2,6,7,8],[.own 278 ZZ12 true,.val (.int .i64),.hof false ZZ32 (.int .i64),.val (.int .i64),.val (.int .i64),.val (.int .i64)]⟩,[((.exit 4),⟨[0,7],[.own 278 ZZ12 true,.val (.int .i64)]⟩)],([7,8]++seg 33 16),ujq_,[],none⟩
def ue0_:CSpec:=⟨⟨[0,1,2,6],[.own 278 ZZ12 true,.val (.int .i64),.hof false ZZ32 (.int .i64),.val (.int .i64)]⟩,[((.exit 2),⟨[0],[.own 278 ZZ12 true]⟩)],([6,7,8,9]++seg 28 35),ujr_,[],none⟩
def ux8_:Env:=mkE [(409,ugd_),(410,uip_)] [(0,uey_),(4,uez_),(2,ue0_)] [] false
theorem ucp_:EnvOK Tryz.prog false ux8_:=enk ⟨uos_,utx_,trivial⟩
def ut_:Code:=ui_ Tryz.f392
theorem uri_:CutOK Tryz.prog false Tryz.f392.ntmps uey_ (sub ut_ [1,1,0,0]) :=
 lok (body:=sub ut_ [1,1,0,0,0]) (n:=1) (l:=[]) ucp_ trivial
theorem urj_:CutOK Tryz.prog false Tryz.f392.ntmps uez_ (sub ut_ [1,1,1,1,0,0,1,0,1,0,0]) :=
 lok (body:=sub ut_ [1,1,1,1,0,0,1,0,1,0,0,0]) (n:=5) (l:=[]) ucp_ trivial
theorem urk_:CutOK Tryz.prog false Tryz.f392.ntmps ue0_ (sub ut_ [1,1,1,1,0]) :=
 lok (body:=sub ut_ [1,1,1,1,0,0]) (n:=3) (l:=[(uez_,sub ut_ [1,1,1,1,0,0,1,0,1,0,0])]) ucp_ ⟨⟨by kernel_rfl,urj_⟩,trivial⟩
theorem uwr_:FO 392 uj4_ :=
 fnk (c:=ut_) (l:=[(uey_,sub ut_ [1,1,0,0]),(ue0_,sub ut_ [1,1,1,1,0])]) ucp_ Tryz.func392 ⟨⟨by kernel_rfl,uri_⟩,⟨by kernel_rfl,urk_⟩,trivial⟩
def ui6_:FSpec:=⟨[.io 278 ZZ12,.hof false ZZ32 (.int .i64)],[],uls_,false⟩
def uws_:Env:=mkE [(392,uj4_)] [] [] false
theorem usk_:EnvOK Tryz.prog false uws_:=enk ⟨uwr_,trivial⟩
theorem uu0_:FO 349 ui6_ :=
 fnk (c:=ui_ Tryz.f349) (l:=[]) usk_ Tryz.func349 trivial
def ubin_:FSpec:=⟨[.val ZZ12,.val ZZ12],[.val (.int .i64)],ubsx_,true⟩
def ubxq_:Env:=mkE [(46,udc_)] [] [] true
theorem ubqu_:EO ubxq_:=enk ⟨ueu_,trivial⟩
theorem ubu3_:FO 350 ubin_ :=
 fnk (c:=ui_ Tryz.f350) (l:=[]) ubqu_ Tryz.func350 trivial
def ubmg_:FSpec:=⟨[.val (.int .u8)],[.val .bool],ubn3_,true⟩
def ubz4_:Env:=mkE [] [] [] true
theorem ubtq_:EO ubz4_:=enk trivial
theorem ubxr_:FO 194 ubmg_ :=
 fnk (c:=ui_ Tryz.f194) (l:=[]) ubtq_ Tryz.func194 trivial
def ucw_:FSpec:=⟨[.bld 5 false,.val (.int .u8)],[.any],ubd_,false⟩
def u3j_:Env:=mkE [(243,uhd_)] [] [] false
theorem uy3_:EnvOK Tryz.prog false u3j_:=enk ⟨unp_,trivial⟩
theorem ueo_:FO 191 ucw_ :=
 fnk (c:=ui_ Tryz.f191) (l:=[]) uy3_ Tryz.func191 trivial
def ubmh_:FSpec:=⟨[.val .str],[.val .str],ubv0_,false⟩
def u50_:CSpec:=⟨⟨[0,3,6,7],[.val .str,.bld 5 false,.val (.int .i64),.val (.int .i64)]⟩,[((.exit 0),⟨[3],[.bld 5 false]⟩)],([4]++seg 7 26),ublf_,[],none⟩
def ubz5_:Env:=mkE [(191,ucw_),(193,ube_),(194,ubmg_)] [(0,u50_)] [] false
theorem ubex_:EnvOK Tryz.prog false ubz5_:=enk ⟨ueo_,uby_,ubxr_,trivial⟩
def u41_:Code:=ui_ Tryz.f148
theorem ubor_:CutOK Tryz.prog false Tryz.f148.ntmps u50_ (sub u41_ [1,1,0,1,0]) :=
 lok (body:=sub u41_ [1,1,0,1,0,0]) (n:=1) (l:=[]) ubex_ trivial
theorem ubxs_:FO 148 ubmh_ :=
 fnk (c:=u41_) (l:=[(u50_,sub u41_ [1,1,0,1,0])]) ubex_ Tryz.func148 ⟨⟨by kernel_rfl,ubor_⟩,trivial⟩
def uy4_:FSpec:=⟨[.val (.agg ZZ17)],[.val (.agg ZZ17)],u8k_,false⟩
def uwt_:CSpec:=⟨⟨[1,12],[.box (.val ZZ17),.val .bool]⟩,[(.normal,⟨[1],[.box (.val ZZ17)]⟩)],[13,14,15,16,17,18,19,20],ubak_,[],none⟩
def ubtr_:Env:=mkE [(138,ubjg_),(147,ubev_),(148,ubmh_)] [(0,uwt_)] [] false
theorem u42_:EnvOK Tryz.prog false ubtr_:=enk ⟨ubtj_,ubp6_,ubxs_,trivial⟩
def uj5_:Code:=ui_ Tryz.f111
theorem ubgx_:CutOK Tryz.prog false Tryz.f111.ntmps uwt_ (sub uj5_ [1,1,0,1]) :=
 brk (c:=ul8_ (sub uj5_ [1,1,0,1])) (x:=sub uj5_ [1,1,0,1,0]) (y:=sub uj5_ [1,1,0,1,1]) (n:=0) (lx:=[]) (ly:=[]) u42_ trivial trivial
theorem ubbe_:FO 111 uy4_ :=
 fnk (c:=uj5_) (l:=[(uwt_,sub uj5_ [1,1,0,1])]) u42_ Tryz.func111 ⟨⟨by kernel_rfl,ubgx_⟩,trivial⟩
def ubts_:FSpec:=⟨[.val .str],[.val (.agg ZZ17),.val (.int .i64),.val (.int .i64)],ub23_,false⟩
def ubey_:CSpec:=⟨⟨[2,6,7],[.box (.val ZZ17),.box (.pr (.val .str) (.pr (.val .str) (.pr (.val .str) (.pr (.val .str) (.pr (.own 278 ZZ12 true) (.val .str)))))),.val (.int .i64)]⟩,[((.exit 0),⟨[2,6],[.box (.val ZZ17),.box (.pr (.val .str) (.pr (.val .str) (.pr (.val .str) (.pr (.val .str) (.pr (.own 278 ZZ12 true) (.val .str))))))]⟩),(.ret,⟨[2,3,4],[.box (.val ZZ17),.val (.int .i64),.val (.int .i64)]⟩)],([3,4,7]++seg 31 22),ubsy_,[],none⟩
def ub4b_:Env:=mkE [(109,u4v_),(111,uy4_),(348,u40_),(349,ui6_),(350,ubin_)] [(2,ubey_)] [] false
theorem ubmi_:EnvOK Tryz.prog false ub4b_:=enk ⟨ubet_,ubbe_,ubmf_,uu0_,ubu3_,trivial⟩
def ubgf_:Code:=ui_ Tryz.f296
theorem ubtt_:CutOK Tryz.prog false Tryz.f296.ntmps ubey_ (sub ubgf_ [1,1,1,1,1,1,0,1,0]) :=
 lok (body:=sub ubgf_ [1,1,1,1,1,1,0,1,0,0]) (n:=3) (l:=[]) ubmi_ trivial
theorem ub1x_:FO 296 ubts_ :=
 fnk (c:=ubgf_) (l:=[(ubey_,sub ubgf_ [1,1,1,1,1,1,0,1,0])]) ubmi_ Tryz.func296 ⟨⟨by kernel_rfl,ubtt_⟩,trivial⟩
def ubm_:FSpec:=⟨[.bld 5 false,.val .str],[.val (.int .i64),.any],ub2_,false⟩
def u0h_:Env:=mkE [(243,uhd_)] [] [] false
theorem uwu_:EnvOK Tryz.prog false u0h_:=enk ⟨unp_,trivial⟩
theorem ub7_:FO 192 ubm_ :=
 fnk (c:=ui_ Tryz.f192) (l:=[]) uwu_ Tryz.func192 trivial
def u51_:FSpec:=⟨[.val .str],[.val .str],u8l_,false⟩
def u2h_:CSpec:=⟨⟨[0,3,7,8],[.val .str,.bld 5 false,.val (.int .i64),.val (.int .i64)]⟩,[((.exit 0),⟨[3],[.bld 5 false]⟩)],([4,5]++seg 8 39),ubh5_,[],none⟩
def ubxt_:Env:=mkE [(142,ufd_),(190,u2d_),(191,ucw_),(192,ubm_),(193,ube_)] [(0,u2h_)] [] false
theorem ubbf_:EnvOK Tryz.prog false ubxt_:=enk ⟨uhc_,ubew_,ueo_,ub7_,uby_,trivial⟩
def u0i_:Code:=ui_ Tryz.f146
theorem ubmj_:CutOK Tryz.prog false Tryz.f146.ntmps u2h_ (sub u0i_ [1,1,0,1,0]) :=
 lok (body:=sub u0i_ [1,1,0,1,0,0]) (n:=1) (l:=[]) ubbf_ trivial
theorem ubio_:FO 146 u51_ :=
 fnk (c:=u0i_) (l:=[(u2h_,sub u0i_ [1,1,0,1,0])]) ubbf_ Tryz.func146 ⟨⟨by kernel_rfl,ubmj_⟩,trivial⟩
def ubtu_:FSpec:=⟨[.val .str],[.val .str],ub24_,false⟩
def ubez_:CSpec:=⟨⟨[3,7,8,9],[.own 9 .str false,.val (.slice .str),.val (.int .i64),.val (.int .i64)]⟩,[((.exit 0),⟨[3],[.own 9 .str false]⟩)],([3,5]++seg 9 10),ubsz_,[],none⟩
def ub4c_:Env:=mkE [(141,u14_),(146,u51_),(189,ul6_)] [(0,ubez_)] [] false
theorem ubmk_:EnvOK Tryz.prog false ub4c_:=enk ⟨ubeq_,ubio_,uqh_,trivial⟩
def ubgg_:Code:=ui_ Tryz.f145
theorem ubtv_:CutOK Tryz.prog false Tryz.f145.ntmps ubez_ (sub ubgg_ [1,1,0,1,0]) :=
 lok (body:=sub ubgg_ [1,1,0,1,0,0]) (n:=1) (l:=[]) ubmk_ trivial
theorem ub1y_:FO 145 ubtu_ :=
 fnk (c:=ubgg_) (l:=[(ubez_,sub ubgg_ [1,1,0,1,0])]) ubmk_ Tryz.func145 ⟨⟨by kernel_rfl,ubtv_⟩,trivial⟩
def ubip_:FSpec:=⟨[.val (.agg ZZ17)],[.val .str],ubs0_,false⟩
def ubxu_:Env:=mkE [(145,ubtu_),(146,u51_)] [] [] false
theorem ubqv_:EnvOK Tryz.prog false ubxu_:=enk ⟨ub1y_,ubio_,trivial⟩
theorem ubu4_:FO 110 ubip_ :=
 fnk (c:=ui_ Tryz.f110) (l:=[]) ubqv_ Tryz.func110 trivial
def ubos_:FSpec:=⟨[.val (.agg ZZ17)],[.val .str,.val (.int .i64)],ub1k_,false⟩
def ub68_:Env:=mkE [(109,u4v_),(110,ubip_),(111,uy4_)] [] [] false
theorem ubz6_:EnvOK Tryz.prog false ub68_:=enk ⟨ubet_,ubu4_,ubbe_,trivial⟩
theorem ubv9_:FO 84 ubos_ :=
 fnk (c:=ui_ Tryz.f84) (l:=[]) ubz6_ Tryz.func84 trivial
def ubbg_:FSpec:=⟨[.val .str],[.val .bool],ublg_,false⟩
def ubtw_:Env:=mkE [(84,ubos_),(296,ubts_)] [] [] false
theorem ubml_:EnvOK Tryz.prog false ubtw_:=enk ⟨ubv9_,ub1x_,trivial⟩
theorem ubqw_:FO 244 ubbg_ :=
 fnk (c:=ui_ Tryz.f244) (l:=[]) ubml_ Tryz.func244 trivial
def ucq_:FSpec:=⟨[.val .str,.val (.int .i64),.hof false (.int .u8) .bool],[.val (.int .i64)],ud1_,false⟩
def u52_:CSpec:=⟨⟨[0,1,2,7],[.val .str,.val (.int .i64),.hof false (.int .u8) .bool,.val (.int .i64)]⟩,[((.exit 0),⟨[7],[.val (.int .i64)]⟩)],(seg 7 18),ublh_,[],none⟩
def ubz7_:Env:=mkE [] [(0,u52_)] [] false
theorem ube0_:EnvOK Tryz.prog false ubz7_:=enk trivial
def u43_:Code:=ui_ Tryz.f304
theorem ubot_:CutOK Tryz.prog false Tryz.f304.ntmps u52_ (sub u43_ [1,1,0,0]) :=
 lok (body:=sub u43_ [1,1,0,0,0]) (n:=1) (l:=[]) ube0_ trivial
theorem uc9_:FO 304 ucq_ :=
 fnk (c:=u43_) (l:=[(u52_,sub u43_ [1,1,0,0])]) ube0_ Tryz.func304 ⟨⟨by kernel_rfl,ubot_⟩,trivial⟩
def uy_:FSpec:=⟨[.val (.int .u8)],[.val .bool],ux_,true⟩
def ubqx_:Env:=mkE [] [] [] true
theorem ubjp_:EO ubqx_:=enk trivial
theorem u1_:FO 305 uy_ :=
 fnk (c:=ui_ Tryz.f305) (l:=[]) ubjp_ Tryz.func305 trivial
def ubn_:FSpec:=⟨[.val .str],[.val (.int .i64),.val .bool],ub3_,false⟩
def ubtx_:Env:=mkE [(304,ucq_),(305,uy_),(368,ubif_)] [] [] false
theorem ubmm_:EnvOK Tryz.prog false ubtx_:=enk ⟨uc9_,u1_,strconv_Atoi_ok,trivial⟩
theorem ubw_:FO 314 ubn_ :=
 fnk (c:=ui_ Tryz.f314) (l:=[]) ubmm_ Tryz.func314 trivial
def uf1_:FSpec:=⟨[.val .str],[.val (.int .i64),.val .bool],uih_,false⟩
def ubgy_:Env:=mkE [(314,ubn_)] [] [] false
theorem u9g_:EnvOK Tryz.prog false ubgy_:=enk ⟨ubw_,trivial⟩
theorem uir_:FO 306 uf1_ :=
 fnk (c:=ui_ Tryz.f306) (l:=[]) u9g_ Tryz.func306 trivial
def uep_:FSpec:=⟨[.val (.int .u8)],[.val .bool],ufu_,true⟩
def ubou_:Env:=mkE [] [] [] true
theorem ubgz_:EO ubou_:=enk trivial
theorem uge_:FO 310 uep_ :=
 fnk (c:=ui_ Tryz.f310) (l:=[]) ubgz_ Tryz.func310 trivial
def ur2_:FSpec:=⟨[.val (.int .u8)],[.val .bool],uxk_,true⟩
def u9h_:Env:=mkE [(305,uy_),(310,uep_)] [] [] true
theorem u3k_:EO u9h_:=enk ⟨u1_,uge_,trivial⟩
theorem u7g_:FO 400 ur2_ :=
 fnk (c:=ui_ Tryz.f400) (l:=[]) u3k_ Tryz.func400 trivial
def unu_:FSpec:=⟨[.val .str],[.val (.slice .str),.val .bool],us0_,false⟩
def ume_:CSpec:=⟨⟨[9,10,11],[.val (.slice .str),.val (.int .i64),.val (.int .i64)]⟩,[((.exit 0),⟨[],[]⟩),(.ret,⟨[2,3],[.val (.slice .str),.val .bool]⟩)],([2,3,6]++seg 11 14),uxl_,[],none⟩
def ubg0_:Env:=mkE [(186,u1x_),(304,ucq_),(400,ur2_)] [(0,ume_)] [] false
theorem uty_:EnvOK Tryz.prog false ubg0_:=enk ⟨ubeg_,uc9_,u7g_,trivial⟩
def ujc_:Code:=ui_ Tryz.f363
theorem u53_:CutOK Tryz.prog false Tryz.f363.ntmps ume_ (sub ujc_ [1,1,0,1,0]) :=
 lok (body:=sub ujc_ [1,1,0,1,0,0]) (n:=1) (l:=[]) uty_ trivial
theorem ux9_:FO 363 unu_ :=
 fnk (c:=ujc_) (l:=[(ume_,sub ujc_ [1,1,0,1,0])]) uty_ Tryz.func363 ⟨⟨by kernel_rfl,u53_⟩,trivial⟩
def u44_:FSpec:=⟨[.val .str],[.val (.slice .str),.val .bool],ubdt_,false⟩
def url_:CSpec:=⟨⟨[15,16,17],[.val (.slice .str),.val (.int .i64),.val (.int .i64)]⟩,[((.exit 0),⟨[],[]⟩),(.ret,⟨[2,3],[.val (.slice .str),.val .bool]⟩)],([2,3,7,8,9]++seg 17 17),u4j_,[],none⟩
def ubov_:Env:=mkE [(304,ucq_),(305,uy_),(306,uf1_),(363,unu_)] [(0,url_)] [] false
theorem uzz_:EnvOK Tryz.prog false ubov_:=enk ⟨uc9_,u1_,uir_,ux9_,trivial⟩
def uoz_:Code:=ui_ Tryz.f364
theorem ubch_:CutOK Tryz.prog false Tryz.f364.ntmps url_ (sub uoz_ [1,1,0,1,0]) :=
 lok (body:=sub uoz_ [1,1,0,1,0,0]) (n:=1) (l:=[]) uzz_ trivial
theorem ubmn_:FO 364 u44_ :=
 fnk (c:=uoz_) (l:=[(url_,sub uoz_ [1,1,0,1,0])]) uzz_ Tryz.func364 ⟨⟨by kernel_rfl,ubch_⟩,trivial⟩
def ubiq_:FSpec:=⟨[.val .str],[.val (.slice .str),.val .bool],ubs1_,false⟩
def ubxv_:Env:=mkE [(308,u8s_),(363,unu_),(364,u44_)] [] [] false
theorem ubqy_:EnvOK Tryz.prog false ubxv_:=enk ⟨ubl0_,ux9_,ubmn_,trivial⟩
theorem ubu5_:FO 307 ubiq_ :=
 fnk (c:=ui_ Tryz.f307) (l:=[]) ubqy_ Tryz.func307 trivial
def uz0_:FSpec:=⟨[.val .str],[.val ZZ7,.val .bool],u6o_,false⟩
def unv_:CSpec:=⟨⟨[0,5,16],[.val .str,.val (.int .i64),.val .bool]⟩,[(.normal,⟨[5],[.val (.int .i64)]⟩),(.ret,⟨[2,3],[.val ZZ7,.val .bool]⟩)],([2,3,5]++seg 17 12),uzk_,[],none⟩
def unw_:CSpec:=⟨⟨[0,4,5,12],[.val .str,.box (.pr (.val (.arr 3 (.int .i64))) (.own 9 .str false)),.val (.int .i64),.val (.int .i64)]⟩,[((.exit 0),⟨[4,5],[.box (.pr (.val (.arr 3 (.int .i64))) (.own 9 .str false)),.val (.int .i64)]⟩),(.ret,⟨[2,3],[.val ZZ7,.val .bool]⟩)],([2,3,5,6,7,8,9]++seg 12 40),uzl_,[],none⟩
def ubjq_:Env:=mkE [(304,ucq_),(305,uy_),(306,uf1_),(307,ubiq_)] [(2,unv_),(0,unw_)] [] false
theorem umf_:EnvOK Tryz.prog false ubjq_:=enk ⟨uc9_,u1_,uir_,ubu5_,trivial⟩
def ub4_:Code:=ui_ Tryz.f256
theorem u7h_:CutOK Tryz.prog false Tryz.f256.ntmps unv_ (sub ub4_ [1,1,1,0,1,0,0,1,1,0,0,1,0,1]) :=
 brk (c:=ul8_ (sub ub4_ [1,1,1,0,1,0,0,1,1,0,0,1,0,1])) (x:=sub ub4_ [1,1,1,0,1,0,0,1,1,0,0,1,0,1,0]) (y:=sub ub4_ [1,1,1,0,1,0,0,1,1,0,0,1,0,1,1]) (n:=2) (lx:=[]) (ly:=[]) umf_ trivial trivial
theorem u7i_:CutOK Tryz.prog false Tryz.f256.ntmps unw_ (sub ub4_ [1,1,1,0,1,0]) :=
 lok (body:=sub ub4_ [1,1,1,0,1,0,0]) (n:=1) (l:=[(unv_,sub ub4_ [1,1,1,0,1,0,0,1,1,0,0,1,0,1])]) umf_ ⟨⟨by kernel_rfl,u7h_⟩,trivial⟩
theorem ubg1_:FO 256 uz0_ :=
 fnk (c:=ub4_) (l:=[(unw_,sub ub4_ [1,1,1,0,1,0])]) umf_ Tryz.func256 ⟨⟨by kernel_rfl,u7i_⟩,trivial⟩
def ur3_:FSpec:=⟨[.val (.int .u8)],[.val .bool],uxm_,true⟩
def u9i_:Env:=mkE [(142,ufd_),(305,uy_),(310,uep_)] [] [] true
theorem u3l_:EO u9i_:=enk ⟨uhc_,u1_,uge_,trivial⟩
theorem u7j_:FO 309 ur3_ :=
 fnk (c:=ui_ Tryz.f309) (l:=[]) u3l_ Tryz.func309 trivial
def u2i_:FSpec:=⟨[.val .str],[.val .bool],ubal_,false⟩
def upu_:CSpec:=⟨⟨[0,3],[.val .str,.val (.int .i64)]⟩,[((.exit 0),⟨[],[]⟩),(.ret,⟨[2],[.val .bool]⟩)],(seg 2 16),u1d_,[],none⟩
def ubmo_:Env:=mkE [(304,ucq_),(305,uy_)] [(0,upu_)] [] false
theorem uya_:EnvOK Tryz.prog false ubmo_:=enk ⟨uc9_,u1_,trivial⟩
def um6_:Code:=ui_ Tryz.f311
theorem u9j_:CutOK Tryz.prog false Tryz.f311.ntmps upu_ (sub um6_ [1,0,1,0]) :=
 lok (body:=sub um6_ [1,0,1,0,0]) (n:=1) (l:=[]) uya_ trivial
theorem ubjr_:FO 311 u2i_ :=
 fnk (c:=um6_) (l:=[(upu_,sub um6_ [1,0,1,0])]) uya_ Tryz.func311 ⟨⟨by kernel_rfl,u9j_⟩,trivial⟩
def uyb_:FSpec:=⟨[.val .str],[.val ZZ7,.val .bool],u4k_,false⟩
def umg_:CSpec:=⟨⟨[0,4,5,6,18],[.val .str,.box (.val ZZ26),.val .str,.val .str,.val .bool]⟩,[(.normal,⟨[0,4],[.val .str,.box (.val ZZ26)]⟩),(.ret,⟨[2,3],[.val ZZ7,.val .bool]⟩)],([0,2,3,8,9]++seg 19 10),uxn_,[],none⟩
def ubg2_:Env:=mkE [(142,ufd_),(304,ucq_),(305,uy_),(306,uf1_),(308,u8s_),(309,ur3_),(311,u2i_),(312,utg_)] [(0,umg_)] [] false
theorem utz_:EnvOK Tryz.prog false ubg2_:=enk ⟨uhc_,uc9_,u1_,uir_,ubl0_,u7j_,ubjr_,u8r_,trivial⟩
def uev_:Code:=ui_ Tryz.f257
theorem u54_:CutOK Tryz.prog false Tryz.f257.ntmps umg_ (sub uev_ [1,1,0,1,1]) :=
 brk (c:=ul8_ (sub uev_ [1,1,0,1,1])) (x:=sub uev_ [1,1,0,1,1,0]) (y:=sub uev_ [1,1,0,1,1,1]) (n:=0) (lx:=[]) (ly:=[]) utz_ trivial trivial
theorem ube1_:FO 257 uyb_ :=
 fnk (c:=uev_) (l:=[(umg_,sub uev_ [1,1,0,1,1])]) utz_ Tryz.func257 ⟨⟨by kernel_rfl,u54_⟩,trivial⟩
def u2j_:FSpec:=⟨[.val .str],[.val ZZ18,.val .str,.val .bool],ubam_,false⟩
def upv_:CSpec:=⟨⟨[0,5],[.val .str,.own 3 (.int .i64) false]⟩,[(.ret,⟨[2,3,4],[.val ZZ18,.val .str,.val .bool]⟩)],([0]++seg 2 43),u1e_,[],none⟩
def ubmp_:Env:=mkE [(304,ucq_),(305,uy_),(314,ubn_)] [(0,upv_)] [] false
theorem uyc_:EnvOK Tryz.prog false ubmp_:=enk ⟨uc9_,u1_,ubw_,trivial⟩
def um7_:Code:=ui_ Tryz.f315
theorem u9k_:CutOK Tryz.prog false Tryz.f315.ntmps upv_ (sub um7_ [1,1,0]) :=
 lok (body:=sub um7_ [1,1,0,0]) (n:=1) (l:=[]) uyc_ trivial
theorem ubjs_:FO 315 u2j_ :=
 fnk (c:=um7_) (l:=[(upv_,sub um7_ [1,1,0])]) uyc_ Tryz.func315 ⟨⟨by kernel_rfl,u9k_⟩,trivial⟩
def ubbh_:FSpec:=⟨[.val (.int .u8)],[.val .bool],ublj_,true⟩
def ubty_:Env:=mkE [] [] [] true
theorem ubmq_:EO ubty_:=enk trivial
theorem ubqz_:FO 403 ubbh_ :=
 fnk (c:=ui_ Tryz.f403) (l:=[]) ubmq_ Tryz.func403 trivial
def ubbi_:FSpec:=⟨[.val .str,.hof false (.int .u8) .bool],[.val (.int .i64)],u8m_,false⟩
def ubtz_:Env:=mkE [(403,ubbh_)] [] [] false
theorem ubmr_:EnvOK Tryz.prog false ubtz_:=enk ⟨ubqz_,trivial⟩
theorem ubq0_:FO 369 ubbi_ :=
 fnk (c:=ui_ Tryz.f369) (l:=[]) ubmr_ Tryz.func369 trivial
def u2k_:FSpec:=⟨[.val .str],[.val .str,.val (.int .i64),.val (.int .i64)],uban_,true⟩
def upw_:CSpec:=⟨⟨[0,2,7,8,9],[.val .str,.val .str,.own 9 .str false,.val (.int .i64),.val (.int .i64)]⟩,[((.exit 0),⟨[2],[.val .str]⟩)],([2,6]++seg 9 9),u1f_,[],none⟩
def upx_:CSpec:=⟨⟨[18,21],[.val .str,.val .bool]⟩,[(.normal,⟨[21],[.val .bool]⟩)],[21,23],u1g_,[],none⟩
def upy_:CSpec:=⟨⟨[18,25],[.val .str,.val .bool]⟩,[(.normal,⟨[25],[.val .bool]⟩)],[25,27],u1h_,[],none⟩
def upz_:CSpec:=⟨⟨[18,29],[.val .str,.val .bool]⟩,[(.normal,⟨[29],[.val .bool]⟩)],[29,31,32,33],u1i_,[],none⟩
def ubms_:Env:=mkE [(290,u1v_)] [(0,upw_),(4,upx_),(6,upy_),(8,upz_)] [] true
theorem uf2_:EO ubms_:=enk ⟨ubja_,trivial⟩
def us_:Code:=ui_ Tryz.f370
theorem u9l_:CO Tryz.f370.ntmps upw_ (sub us_ [1,0,1,0]) :=
 lok (body:=sub us_ [1,0,1,0,0]) (n:=1) (l:=[]) uf2_ trivial
theorem u9m_:CO Tryz.f370.ntmps upx_ (sub us_ [1,1,0,1,0,1,1,0,1]) :=
 brk (c:=ul8_ (sub us_ [1,1,0,1,0,1,1,0,1])) (x:=sub us_ [1,1,0,1,0,1,1,0,1,0]) (y:=sub us_ [1,1,0,1,0,1,1,0,1,1]) (n:=4) (lx:=[]) (ly:=[]) uf2_ trivial trivial
theorem u9n_:CO Tryz.f370.ntmps upy_ (sub us_ [1,1,0,1,0,1,1,1,1,0,1]) :=
 brk (c:=ul8_ (sub us_ [1,1,0,1,0,1,1,1,1,0,1])) (x:=sub us_ [1,1,0,1,0,1,1,1,1,0,1,0]) (y:=sub us_ [1,1,0,1,0,1,1,1,1,0,1,1]) (n:=6) (lx:=[]) (ly:=[]) uf2_ trivial trivial
theorem u9o_:CO Tryz.f370.ntmps upz_ (sub us_ [1,1,0,1,0,1,1,1,1,1,1,0,1]) :=
 brk (c:=ul8_ (sub us_ [1,1,0,1,0,1,1,1,1,1,1,0,1])) (x:=sub us_ [1,1,0,1,0,1,1,1,1,1,1,0,1,0]) (y:=sub us_ [1,1,0,1,0,1,1,1,1,1,1,0,1,1]) (n:=8) (lx:=[]) (ly:=[]) uf2_ trivial trivial
theorem ubjt_:FO 370 u2k_ :=
 fnk (c:=us_) (l:=[(upw_,sub us_ [1,0,1,0]),(upx_,sub us_ [1,1,0,1,0,1,1,0,1]),(upy_,sub us_ [1,1,0,1,0,1,1,1,1,0,1]),(upz_,sub us_ [1,1,0,1,0,1,1,1,1,1,1,0,1])]) uf2_ Tryz.func370 ⟨⟨by kernel_rfl,u9l_⟩,⟨by kernel_rfl,u9m_⟩,⟨by kernel_rfl,u9n_⟩,⟨by kernel_rfl,u9o_⟩,trivial⟩
def uvs_:FSpec:=⟨[.box (.val ZZ10),.val .str],[.val .str,.val .bool],u1j_,false⟩
def uk1_:CSpec:=⟨⟨[7,11,12,49],[.val .str,.val (.int .i64),.val (.int .i64),.val .bool]⟩,[(.normal,⟨[7,11],[.val .str,.val (.int .i64)]⟩),(.ret,⟨[4,5],[.val .str,.val .bool]⟩)],([4,5,7,11,13,14,15]++seg 50 21),uu7_,[],none⟩
def uk2_:CSpec:=⟨⟨[0,1,6],[.box (.val ZZ10),.val .str,.val (.int .i64)]⟩,[(.ret,⟨[0,4,5],[.box (.val ZZ10),.val .str,.val .bool]⟩)],([1]++seg 4 91),uu8_,[],none⟩
def ube2_:Env:=mkE [(304,ucq_),(305,uy_),(310,uep_),(314,ubn_),(369,ubbi_),(370,u2k_)] [(3,uk1_),(0,uk2_)] [] false
theorem uj6_:EnvOK Tryz.prog false ube2_:=enk ⟨uc9_,u1_,uge_,ubw_,ubq0_,ubjt_,trivial⟩
def ubo_:Code:=ui_ Tryz.f316
theorem u3m_:CutOK Tryz.prog false Tryz.f316.ntmps uk1_ (sub ubo_ [1,1,0,0,0,1,1,1,1,1,1,0,1,1]) :=
 brk (c:=ul8_ (sub ubo_ [1,1,0,0,0,1,1,1,1,1,1,0,1,1])) (x:=sub ubo_ [1,1,0,0,0,1,1,1,1,1,1,0,1,1,0]) (y:=sub ubo_ [1,1,0,0,0,1,1,1,1,1,1,0,1,1,1]) (n:=3) (lx:=[]) (ly:=[]) uj6_ trivial trivial
theorem u3n_:CutOK Tryz.prog false Tryz.f316.ntmps uk2_ (sub ubo_ [1,1,0]) :=
 lok (body:=sub ubo_ [1,1,0,0]) (n:=1) (l:=[(uk1_,sub ubo_ [1,1,0,0,0,1,1,1,1,1,1,0,1,1])]) uj6_ ⟨⟨by kernel_rfl,u3m_⟩,trivial⟩
theorem ubci_:FO 316 uvs_ :=
 fnk (c:=ubo_) (l:=[(uk2_,sub ubo_ [1,1,0])]) uj6_ Tryz.func316 ⟨⟨by kernel_rfl,u3n_⟩,trivial⟩
def uz1_:FSpec:=⟨[.val (.int .i32)],[.val .bool],u6p_,true⟩
def ubju_:Env:=mkE [] [] [] true
theorem ubcj_:EO ubju_:=enk trivial
theorem ubg3_:FO 373 uz1_ :=
 fnk (c:=ui_ Tryz.f373) (l:=[]) ubcj_ Tryz.func373 trivial
def uz2_:FSpec:=⟨[.val (.int .u8)],[.val .bool],u6q_,true⟩
def ubjv_:Env:=mkE [(305,uy_),(310,uep_)] [] [] true
theorem ubck_:EO ubjv_:=enk ⟨u1_,uge_,trivial⟩
theorem ubg4_:FO 374 uz2_ :=
 fnk (c:=ui_ Tryz.f374) (l:=[]) ubck_ Tryz.func374 trivial
def u7k_:FSpec:=⟨[.val .str],[.val (.slice .str),.val .bool],ubh6_,false⟩
def ut0_:CSpec:=⟨⟨[5,13,14,15],[.val (.int .i64),.val (.slice .str),.val (.int .i64),.val (.int .i64)]⟩,[((.exit 0),⟨[5],[.val (.int .i64)]⟩),(.ret,⟨[2,3],[.val (.slice .str),.val .bool]⟩)],([2,3,5,7,8]++seg 15 26),u6r_,[],none⟩
def ubq1_:Env:=mkE [(304,ucq_),(305,uy_),(372,uzv_),(373,uz1_),(374,uz2_)] [(0,ut0_)] [] false
theorem u2l_:EnvOK Tryz.prog false ubq1_:=enk ⟨uc9_,u1_,ubgo_,ubg3_,ubg4_,trivial⟩
def uqt_:Code:=ui_ Tryz.f318
theorem ube3_:CutOK Tryz.prog false Tryz.f318.ntmps ut0_ (sub uqt_ [1,1,1,0,1,0]) :=
 lok (body:=sub uqt_ [1,1,1,0,1,0,0]) (n:=1) (l:=[]) u2l_ trivial
theorem ubow_:FO 318 u7k_ :=
 fnk (c:=uqt_) (l:=[(ut0_,sub uqt_ [1,1,1,0,1,0])]) u2l_ Tryz.func318 ⟨⟨by kernel_rfl,ube3_⟩,trivial⟩
def uz3_:FSpec:=⟨[.val .str],[.val ZZ7,.val .bool],u6s_,false⟩
def unx_:CSpec:=⟨⟨[0,4,5,29],[.val .str,.box (.val ZZ10),.val (.int .i64),.val .bool]⟩,[(.normal,⟨[0,4],[.val .str,.box (.val ZZ10)]⟩),(.ret,⟨[2,3],[.val ZZ7,.val .bool]⟩)],([0,2,3,6,7]++seg 30 15),uzm_,[],none⟩
def ubjw_:Env:=mkE [(304,ucq_),(305,uy_),(313,uzu_),(314,ubn_),(315,u2j_),(316,uvs_),(317,u1w_),(318,u7k_)] [(0,unx_)] [] false
theorem uvt_:EnvOK Tryz.prog false ubjw_:=enk ⟨uc9_,u1_,ubgn_,ubw_,ubjs_,ubci_,ubjb_,ubow_,trivial⟩
def uff_:Code:=ui_ Tryz.f258
theorem u7l_:CutOK Tryz.prog false Tryz.f258.ntmps unx_ (sub uff_ [1,1,1,0,1,1]) :=
 brk (c:=ul8_ (sub uff_ [1,1,1,0,1,1])) (x:=sub uff_ [1,1,1,0,1,1,0]) (y:=sub uff_ [1,1,1,0,1,1,1]) (n:=0) (lx:=[]) (ly:=[]) uvt_ trivial trivial
theorem ubg5_:FO 258 uz3_ :=
 fnk (c:=uff_) (l:=[(unx_,sub uff_ [1,1,1,0,1,1])]) uvt_ Tryz.func258 ⟨⟨by kernel_rfl,u7l_⟩,trivial⟩
def ube4_:FSpec:=⟨[.val .str,.val .bool],[.val .str],ubpu_,false⟩
def ubu6_:Env:=mkE [(259,uwk_)] [] [] false
theorem ubox_:EnvOK Tryz.prog false ubu6_:=enk ⟨u7a_,trivial⟩
theorem ubt0_:FO 321 ube4_ :=
 fnk (c:=ui_ Tryz.f321) (l:=[]) ubox_ Tryz.func321 trivial
def uis_:FSpec:=⟨[.val ZZ20],[.val .bool],umv_,true⟩
def ubg6_:Env:=mkE [] [] [] true
theorem u9p_:EO ubg6_:=enk trivial
theorem uny_:FO 322 uis_ :=
 fnk (c:=ui_ Tryz.f322) (l:=[]) u9p_ Tryz.func322 trivial
def ut1_:FSpec:=⟨[.val .str],[.val ZZ7,.val .bool],uzn_,false⟩
def uj7_:CSpec:=⟨⟨[0,5,24],[.val .str,.val (.int .i64),.val .bool]⟩,[(.normal,⟨[5],[.val (.int .i64)]⟩),(.ret,⟨[2,3],[.val ZZ7,.val .bool]⟩)],([2,3,5]++seg 25 27),us1_,[],none⟩
def uj8_:CSpec:=⟨⟨[0,4,5],[.val .str,.box (.own 487 ZZ20 false),.val (.int .i64)]⟩,[((.exit 0),⟨[4],[.box (.own 487 ZZ20 false)]⟩),(.ret,⟨[2,3],[.val ZZ7,.val .bool]⟩)],([2,3]++seg 5 110),us2_,[],none⟩
def uj9_:CSpec:=⟨⟨[4],[.box (.val (.slice ZZ20))]⟩,[((.exit 2),⟨[4],[.box (.val (.slice ZZ20))]⟩)],(seg 115 23),us3_,[],none⟩
def ubcl_:Env:=mkE [(304,ucq_),(305,uy_),(310,uep_),(314,ubn_),(321,ube4_),(322,uis_)] [(2,uj7_),(0,uj8_),(7,uj9_)] [] false
theorem ufr_:EnvOK Tryz.prog false ubcl_:=enk ⟨uc9_,u1_,uge_,ubw_,ubt0_,uny_,trivial⟩
def uz_:Code:=ui_ Tryz.f260
theorem u2m_:CutOK Tryz.prog false Tryz.f260.ntmps uj7_ (sub uz_ [1,1,0,1,0,0,1,0,0,1]) :=
 brk (c:=ul8_ (sub uz_ [1,1,0,1,0,0,1,0,0,1])) (x:=sub uz_ [1,1,0,1,0,0,1,0,0,1,0]) (y:=sub uz_ [1,1,0,1,0,0,1,0,0,1,1]) (n:=2) (lx:=[]) (ly:=[]) ufr_ trivial trivial
theorem u2n_:CutOK Tryz.prog false Tryz.f260.ntmps uj8_ (sub uz_ [1,1,0,1,0]) :=
 lok (body:=sub uz_ [1,1,0,1,0,0]) (n:=1) (l:=[(uj7_,sub uz_ [1,1,0,1,0,0,1,0,0,1])]) ufr_ ⟨⟨by kernel_rfl,u2m_⟩,trivial⟩
theorem u2o_:CutOK Tryz.prog false Tryz.f260.ntmps uj9_ (sub uz_ [1,1,1,0,0]) :=
 lok (body:=sub uz_ [1,1,1,0,0,0]) (n:=8) (l:=[]) ufr_ trivial
theorem u9q_:FO 260 ut1_ :=
 fnk (c:=uz_) (l:=[(uj8_,sub uz_ [1,1,0,1,0]),(uj9_,sub uz_ [1,1,1,0,0])]) ufr_ Tryz.func260 ⟨⟨by kernel_rfl,u2n_⟩,⟨by kernel_rfl,u2o_⟩,trivial⟩
def u2p_:FSpec:=⟨[.val .str],[.val ZZ7,.val .bool],ubao_,false⟩
def ubmt_:Env:=mkE [(306,uf1_)] [] [] false
theorem ube5_:EnvOK Tryz.prog false ubmt_:=enk ⟨uir_,trivial⟩
theorem ubjx_:FO 261 u2p_ :=
 fnk (c:=ui_ Tryz.f261) (l:=[]) ube5_ Tryz.func261 trivial
def ul7_:FSpec:=⟨[.val (.int .i64),.val .str],[.val ZZ7,.val (.int .i64)],uwg_,false⟩
def ubxw_:Env:=mkE [(256,uz0_),(257,uyb_),(258,uz3_),(259,uwk_),(260,ut1_),(261,u2p_)] [] [] false
theorem ubq2_:EnvOK Tryz.prog false ubxw_:=enk ⟨ubg1_,ube1_,ubg5_,u7a_,u9q_,ubjx_,trivial⟩
theorem uqn_:FO 198 ul7_ :=
 fnk (c:=ui_ Tryz.f198) (l:=[]) ubq2_ Tryz.func198 trivial
def unz_:FSpec:=⟨[.val ZZ18],[.val .str],us4_,false⟩
def umh_:CSpec:=⟨⟨[3,6,7,8],[.own 9 .str false,.val ZZ18,.val (.int .i64),.val (.int .i64)]⟩,[((.exit 0),⟨[3],[.own 9 .str false]⟩)],([3,5]++seg 8 10),uxo_,[],none⟩
def ubg7_:Env:=mkE [(189,ul6_),(361,uc2_)] [(0,umh_)] [] false
theorem ut2_:EnvOK Tryz.prog false ubg7_:=enk ⟨uqh_,udh_,trivial⟩
def ujd_:Code:=ui_ Tryz.f466
theorem u55_:CutOK Tryz.prog false Tryz.f466.ntmps umh_ (sub ujd_ [1,1,0,1,0]) :=
 lok (body:=sub ujd_ [1,1,0,1,0,0]) (n:=1) (l:=[]) ut2_ trivial
theorem uyd_:FO 466 unz_ :=
 fnk (c:=ujd_) (l:=[(umh_,sub ujd_ [1,1,0,1,0])]) ut2_ Tryz.func466 ⟨⟨by kernel_rfl,u55_⟩,trivial⟩
def umi_:FSpec:=⟨[.val (.agg (.prod (.arr 3 (.int .i64)) (.slice .str)))],[.val .str],uq0_,false⟩
def ube6_:Env:=mkE [(189,ul6_),(466,unz_)] [] [] false
theorem u7m_:EnvOK Tryz.prog false ube6_:=enk ⟨uqh_,uyd_,trivial⟩
theorem uvu_:FO 463 umi_ :=
 fnk (c:=ui_ Tryz.f463) (l:=[]) u7m_ Tryz.func463 trivial
def uye_:FSpec:=⟨[.val .str],[.val .str],us5_,false⟩
def umj_:CSpec:=⟨⟨[0,3,4],[.val .str,.bld 5 false,.val (.int .i64)]⟩,[((.exit 0),⟨[3],[.bld 5 false]⟩)],(seg 4 49),uxp_,[],none⟩
def ubg8_:Env:=mkE [(191,ucw_),(192,ubm_),(193,ube_),(304,ucq_),(305,uy_),(314,ubn_),(361,uc2_)] [(0,umj_)] [] false
theorem ut3_:EnvOK Tryz.prog false ubg8_:=enk ⟨ueo_,ub7_,uby_,uc9_,u1_,ubw_,udh_,trivial⟩
def uje_:Code:=ui_ Tryz.f473
theorem u56_:CutOK Tryz.prog false Tryz.f473.ntmps umj_ (sub uje_ [1,1,0,1,0]) :=
 lok (body:=sub uje_ [1,1,0,1,0,0]) (n:=1) (l:=[]) ut3_ trivial
theorem ube7_:FO 473 uye_ :=
 fnk (c:=uje_) (l:=[(umj_,sub uje_ [1,1,0,1,0])]) ut3_ Tryz.func473 ⟨⟨by kernel_rfl,u56_⟩,trivial⟩
def umk_:FSpec:=⟨[.val (.agg ZZ26)],[.val .str],uq1_,true⟩
def ube8_:Env:=mkE [] [] [] true
theorem u7n_:EO ube8_:=enk trivial
theorem uvv_:FO 475 umk_ :=
 fnk (c:=ui_ Tryz.f475) (l:=[]) u7n_ Tryz.func475 trivial
def ut4_:FSpec:=⟨[.val (.int .u8)],[.val .bool],uzo_,true⟩
def ubcm_:Env:=mkE [(305,uy_)] [] [] true
theorem u57_:EO ubcm_:=enk ⟨u1_,trivial⟩
theorem u9r_:FO 476 ut4_ :=
 fnk (c:=ui_ Tryz.f476) (l:=[]) u57_ Tryz.func476 trivial
def u7o_:FSpec:=⟨[.val .str],[.val .str],ubh7_,false⟩
def ut5_:CSpec:=⟨⟨[0,3,6,7],[.val .str,.bld 5 false,.val (.int .i64),.val (.int .i64)]⟩,[((.exit 0),⟨[3],[.bld 5 false]⟩)],([4]++seg 7 24),u6t_,[],none⟩
def ubq3_:Env:=mkE [(191,ucw_),(193,ube_),(310,uep_)] [(0,ut5_)] [] false
theorem u2q_:EnvOK Tryz.prog false ubq3_:=enk ⟨ueo_,uby_,uge_,trivial⟩
def uqu_:Code:=ui_ Tryz.f477
theorem ube9_:CutOK Tryz.prog false Tryz.f477.ntmps ut5_ (sub uqu_ [1,1,0,1,0]) :=
 lok (body:=sub uqu_ [1,1,0,1,0,0]) (n:=1) (l:=[]) u2q_ trivial
theorem uboy_:FO 477 u7o_ :=
 fnk (c:=uqu_) (l:=[(ut5_,sub uqu_ [1,1,0,1,0])]) u2q_ Tryz.func477 ⟨⟨by kernel_rfl,ube9_⟩,trivial⟩
def uc3_:FSpec:=⟨[.val (.int .i64)],[.val .str],udq_,false⟩
def ubxx_:Env:=mkE [(361,uc2_),(396,uba8_)] [] [] false
theorem ubq4_:EnvOK Tryz.prog false ubxx_:=enk ⟨udh_,ubqi_,trivial⟩
theorem udi_:FO 360 uc3_ :=
 fnk (c:=ui_ Tryz.f360) (l:=[]) ubq4_ Tryz.func360 trivial
def up0_:FSpec:=⟨[.val .str],[.val .str],ujs_,false⟩
def un0_:CSpec:=⟨⟨[0,3],[.val .str,.bld 5 false]⟩,[((.exit 0),⟨[3],[.bld 5 false]⟩)],([0]++seg 4 34),uzp_,[],none⟩
def ubjy_:Env:=mkE [(192,ubm_),(193,ube_),(304,ucq_),(305,uy_),(314,ubn_),(360,uc3_),(476,ut4_),(477,u7o_)] [(0,un0_)] [] false
theorem uvw_:EnvOK Tryz.prog false ubjy_:=enk ⟨ub7_,uby_,uc9_,u1_,ubw_,udi_,u9r_,uboy_,trivial⟩
def uk3_:Code:=ui_ Tryz.f474
theorem u7p_:CutOK Tryz.prog false Tryz.f474.ntmps un0_ (sub uk3_ [1,1,0,0]) :=
 lok (body:=sub uk3_ [1,1,0,0,0]) (n:=1) (l:=[]) uvw_ trivial
theorem uz4_:FO 474 up0_ :=
 fnk (c:=uk3_) (l:=[(un0_,sub uk3_ [1,1,0,0])]) uvw_ Tryz.func474 ⟨⟨by kernel_rfl,u7p_⟩,trivial⟩
def uk4_:FSpec:=⟨[.val (.agg ZZ26)],[.val .str],upg_,false⟩
def uka_:CSpec:=⟨⟨[1,3,9],[.box (.val ZZ26),.val .str,.val .bool]⟩,[(.normal,⟨[1,3],[.box (.val ZZ26),.val .str]⟩)],[3,10,11,12,13,14,15],us6_,[],none⟩
def ubcn_:Env:=mkE [(361,uc2_),(473,uye_),(474,up0_),(475,umk_)] [(0,uka_)] [] false
theorem uqo_:EnvOK Tryz.prog false ubcn_:=enk ⟨udh_,ube7_,uz4_,uvv_,trivial⟩
def udf_:Code:=ui_ Tryz.f470
theorem u2r_:CutOK Tryz.prog false Tryz.f470.ntmps uka_ (sub udf_ [1,1,0,1]) :=
 brk (c:=ul8_ (sub udf_ [1,1,0,1])) (x:=sub udf_ [1,1,0,1,0]) (y:=sub udf_ [1,1,0,1,1]) (n:=0) (lx:=[]) (ly:=[]) uqo_ trivial trivial
theorem ut6_:FO 470 uk4_ :=
 fnk (c:=udf_) (l:=[(uka_,sub udf_ [1,1,0,1])]) uqo_ Tryz.func470 ⟨⟨by kernel_rfl,u2r_⟩,trivial⟩
def uwv_:FSpec:=⟨[.val ZZ18],[.val ZZ18],u5n_,true⟩
def ut7_:CSpec:=⟨⟨[0],[.val ZZ18]⟩,[((.exit 0),⟨[0],[.val ZZ18]⟩)],([0]++seg 3 17),u6u_,[],none⟩
def ubq5_:Env:=mkE [] [(0,ut7_)] [] true
theorem u2s_:EO ubq5_:=enk trivial
def uqv_:Code:=ui_ Tryz.f481
theorem ubfa_:CO Tryz.f481.ntmps ut7_ (sub uqv_ [1,0,0]) :=
 lok (body:=sub uqv_ [1,0,0,0]) (n:=1) (l:=[]) u2s_ trivial
theorem u7q_:FO 481 uwv_ :=
 fnk (c:=uqv_) (l:=[(ut7_,sub uqv_ [1,0,0])]) u2s_ Tryz.func481 ⟨⟨by kernel_rfl,ubfa_⟩,trivial⟩
def uml_:FSpec:=⟨[.val (.agg ZZ10)],[.val .str],uq2_,false⟩
def uk5_:CSpec:=⟨⟨[1,3,11],[.box (.val ZZ10),.val .str,.val .bool]⟩,[(.normal,⟨[1,3],[.box (.val ZZ10),.val .str]⟩)],[3,12,13,14,15],uu9_,[],none⟩
def uk6_:CSpec:=⟨⟨[3,4,21],[.val .str,.val ZZ18,.val .bool]⟩,[(.normal,⟨[3],[.val .str]⟩)],[3,22,23,24,25,26,27],uva_,[],none⟩
def uk7_:CSpec:=⟨⟨[1,3,30],[.box (.val ZZ10),.val .str,.val .bool]⟩,[(.normal,⟨[1,3],[.box (.val ZZ10),.val .str]⟩)],([3]++seg 31 11),uvb_,[],none⟩
def uk8_:CSpec:=⟨⟨[1,3,44],[.box (.val ZZ10),.val .str,.val .bool]⟩,[(.normal,⟨[1,3],[.box (.val ZZ10),.val .str]⟩)],[3,45,46,47,48,49,50],uvc_,[],none⟩
def uk9_:CSpec:=⟨⟨[1,3,53],[.box (.val ZZ10),.val .str,.val .bool]⟩,[(.normal,⟨[1,3],[.box (.val ZZ10),.val .str]⟩)],[3,54,55,56,57,58,59],uvd_,[],none⟩
def ula_:CSpec:=⟨⟨[6,7,73],[.val .str,.val (.int .i64),.val .bool]⟩,[(.normal,⟨[6],[.val .str]⟩)],[6,74,75],uve_,[],none⟩
def ulb_:CSpec:=⟨⟨[3,61,62,63],[.val .str,.val (.slice .str),.val (.int .i64),.val (.int .i64)]⟩,[((.exit 0),⟨[3],[.val .str]⟩)],([3,5,6,7,8]++seg 63 24),uvf_,[],none⟩
def ubfb_:Env:=mkE [(314,ubn_),(361,uc2_),(466,unz_),(481,uwv_)] [(0,uk5_),(1,uk6_),(2,uk7_),(3,uk8_),(4,uk9_),(7,ula_),(5,ulb_)] [] false
theorem ubf_:EnvOK Tryz.prog false ubfb_:=enk ⟨ubw_,udh_,uyd_,u7q_,trivial⟩
def ue_:Code:=ui_ Tryz.f478
theorem u3o_:CutOK Tryz.prog false Tryz.f478.ntmps uk5_ (sub ue_ [1,1,0,1]) :=
 brk (c:=ul8_ (sub ue_ [1,1,0,1])) (x:=sub ue_ [1,1,0,1,0]) (y:=sub ue_ [1,1,0,1,1]) (n:=0) (lx:=[]) (ly:=[]) ubf_ trivial trivial
theorem u3p_:CutOK Tryz.prog false Tryz.f478.ntmps uk6_ (sub ue_ [1,1,1,0,1,1]) :=
 brk (c:=ul8_ (sub ue_ [1,1,1,0,1,1])) (x:=sub ue_ [1,1,1,0,1,1,0]) (y:=sub ue_ [1,1,1,0,1,1,1]) (n:=1) (lx:=[]) (ly:=[]) ubf_ trivial trivial
theorem u3q_:CutOK Tryz.prog false Tryz.f478.ntmps uk7_ (sub ue_ [1,1,1,1,0,1]) :=
 brk (c:=ul8_ (sub ue_ [1,1,1,1,0,1])) (x:=sub ue_ [1,1,1,1,0,1,0]) (y:=sub ue_ [1,1,1,1,0,1,1]) (n:=2) (lx:=[]) (ly:=[]) ubf_ trivial trivial
theorem u3r_:CutOK Tryz.prog false Tryz.f478.ntmps uk8_ (sub ue_ [1,1,1,1,1,0,1]) :=
 brk (c:=ul8_ (sub ue_ [1,1,1,1,1,0,1])) (x:=sub ue_ [1,1,1,1,1,0,1,0]) (y:=sub ue_ [1,1,1,1,1,0,1,1]) (n:=3) (lx:=[]) (ly:=[]) ubf_ trivial trivial
theorem u3s_:CutOK Tryz.prog false Tryz.f478.ntmps uk9_ (sub ue_ [1,1,1,1,1,1,0,1]) :=
 brk (c:=ul8_ (sub ue_ [1,1,1,1,1,1,0,1])) (x:=sub ue_ [1,1,1,1,1,1,0,1,0]) (y:=sub ue_ [1,1,1,1,1,1,0,1,1]) (n:=4) (lx:=[]) (ly:=[]) ubf_ trivial trivial
theorem u3t_:CutOK Tryz.prog false Tryz.f478.ntmps ula_ (sub ue_ [1,1,1,1,1,1,1,0,1,0,0,1,1,0,0,1,0,1,1]) :=
 brk (c:=ul8_ (sub ue_ [1,1,1,1,1,1,1,0,1,0,0,1,1,0,0,1,0,1,1])) (x:=sub ue_ [1,1,1,1,1,1,1,0,1,0,0,1,1,0,0,1,0,1,1,0]) (y:=sub ue_ [1,1,1,1,1,1,1,0,1,0,0,1,1,0,0,1,0,1,1,1]) (n:=7) (lx:=[]) (ly:=[]) ubf_ trivial trivial
theorem u3u_:CutOK Tryz.prog false Tryz.f478.ntmps ulb_ (sub ue_ [1,1,1,1,1,1,1,0,1,0]) :=
 lok (body:=sub ue_ [1,1,1,1,1,1,1,0,1,0,0]) (n:=6) (l:=[(ula_,sub ue_ [1,1,1,1,1,1,1,0,1,0,0,1,1,0,0,1,0,1,1])]) ubf_ ⟨⟨by kernel_rfl,u3t_⟩,trivial⟩
theorem uvx_:FO 478 uml_ :=
 fnk (c:=ue_) (l:=[(uk5_,sub ue_ [1,1,0,1]),(uk6_,sub ue_ [1,1,1,0,1,1]),(uk7_,sub ue_ [1,1,1,1,0,1]),(uk8_,sub ue_ [1,1,1,1,1,0,1]),(uk9_,sub ue_ [1,1,1,1,1,1,0,1]),(ulb_,sub ue_ [1,1,1,1,1,1,1,0,1,0])]) ubf_ Tryz.func478 ⟨⟨by kernel_rfl,u3o_⟩,⟨by kernel_rfl,u3p_⟩,⟨by kernel_rfl,u3q_⟩,⟨by kernel_rfl,u3r_⟩,⟨by kernel_rfl,u3s_⟩,⟨by kernel_rfl,u3u_⟩,trivial⟩
def uiz_:FSpec:=⟨[.val (.agg (.slice ZZ20))],[.val .str],ul9_,false⟩
def uh7_:CSpec:=⟨⟨[3,7,8,9],[.own 9 .str false,.val (.slice ZZ20),.val (.int .i64),.val (.int .i64)]⟩,[((.exit 0),⟨[3],[.own 9 .str false]⟩)],([3,5]++seg 9 25),uqe_,[],none⟩
def u7r_:Env:=mkE [(189,ul6_),(322,uis_),(361,uc2_)] [(0,uh7_)] [] false
theorem un1_:EnvOK Tryz.prog false u7r_:=enk ⟨uqh_,uny_,udh_,trivial⟩
def ugf_:Code:=ui_ Tryz.f486
theorem uy5_:CutOK Tryz.prog false Tryz.f486.ntmps uh7_ (sub ugf_ [1,1,0,1,0]) :=
 lok (body:=sub ugf_ [1,1,0,1,0,0]) (n:=1) (l:=[]) un1_ trivial
theorem uqp_:FO 486 uiz_ :=
 fnk (c:=ugf_) (l:=[(uh7_,sub ugf_ [1,1,0,1,0])]) un1_ Tryz.func486 ⟨⟨by kernel_rfl,uy5_⟩,trivial⟩
def un2_:FSpec:=⟨[.val (.agg (.int .i64))],[.val .str],us7_,true⟩
def ubg9_:Env:=mkE [(361,uc2_)] [] [] true
theorem u9s_:EO ubg9_:=enk ⟨udh_,trivial⟩
theorem uyf_:FO 492 un2_ :=
 fnk (c:=ui_ Tryz.f492) (l:=[]) u9s_ Tryz.func492 trivial
def u7s_:FSpec:=⟨[.val ZZ7],[.val .str,.val (.int .i64)],ubh8_,false⟩
def ubq6_:Env:=mkE [(463,umi_),(470,uk4_),(478,uml_),(486,uiz_),(492,un2_)] [] [] false
theorem ubjz_:EnvOK Tryz.prog false ubq6_:=enk ⟨uvu_,ut6_,uvx_,uqp_,uyf_,trivial⟩
theorem uboz_:FO 297 u7s_ :=
 fnk (c:=ui_ Tryz.f297) (l:=[]) ubjz_ Tryz.func297 trivial
def un3_:FSpec:=⟨[.val (.int .i64),.val .str],[.val .str,.val (.int .i64)],uxq_,false⟩
def ubu7_:Env:=mkE [(198,ul7_),(297,u7s_)] [] [] false
theorem ubo0_:EnvOK Tryz.prog false ubu7_:=enk ⟨uqn_,uboz_,trivial⟩
theorem ut8_:FO 246 un3_ :=
 fnk (c:=ui_ Tryz.f246) (l:=[]) ubo0_ Tryz.func246 trivial
def uvy_:FSpec:=⟨[.val (.agg ZZ16)],[.val (.int .i64)],u1k_,false⟩
def ulc_:CSpec:=⟨⟨[1,12,13,14],[.box (.val ZZ16),.val (.slice (.agg (.prod (.int .i64) .str))),.val (.int .i64),.val (.int .i64)]⟩,[((.exit 0),⟨[],[]⟩),(.ret,⟨[2],[.val (.int .i64)]⟩)],([2,4,5,6]++seg 14 30),uvg_,[],none⟩
def ubfc_:Env:=mkE [(246,un3_)] [(1,ulc_)] [] false
theorem ur4_:EnvOK Tryz.prog false ubfc_:=enk ⟨ut8_,trivial⟩
def uit_:Code:=ui_ Tryz.f245
theorem u3v_:CutOK Tryz.prog false Tryz.f245.ntmps ulc_ (sub uit_ [1,1,0,1,0]) :=
 lok (body:=sub uit_ [1,1,0,1,0,0]) (n:=2) (l:=[]) ur4_ trivial
theorem ubco_:FO 245 uvy_ :=
 fnk (c:=uit_) (l:=[(ulc_,sub uit_ [1,1,0,1,0])]) ur4_ Tryz.func245 ⟨⟨by kernel_rfl,u3v_⟩,trivial⟩
def uqq_:FSpec:=⟨[.val (.slice .str)],[.val (.int .i64)],uvh_,true⟩
def uh8_:CSpec:=⟨⟨[4,5,25,26],[.val .str,.val .bool,.val (.int .i64),.val (.int .i64)]⟩,[((.exit 2),⟨[5],[.val .bool]⟩)],([5,6]++seg 26 17),uqf_,[],none⟩
def uh9_:CSpec:=⟨⟨[0,10,11,12],[.val (.slice .str),.val (.slice .str),.val (.int .i64),.val (.int .i64)]⟩,[((.exit 0),⟨[],[]⟩),(.ret,⟨[2],[.val (.int .i64)]⟩)],([2,3,4,5,6]++seg 12 46),uqg_,[],none⟩
def u7t_:Env:=mkE [] [(3,uh8_),(1,uh9_)] [] true
theorem uhi_:EO u7t_:=enk trivial
def ubz_:Code:=ui_ Tryz.f247
theorem uy6_:CO Tryz.f247.ntmps uh8_ (sub ubz_ [1,1,0,1,0,0,1,1,0,0,1,1,0,1,0]) :=
 lok (body:=sub ubz_ [1,1,0,1,0,0,1,1,0,0,1,1,0,1,0,0]) (n:=4) (l:=[]) uhi_ trivial
theorem uy7_:CO Tryz.f247.ntmps uh9_ (sub ubz_ [1,1,0,1,0]) :=
 lok (body:=sub ubz_ [1,1,0,1,0,0]) (n:=2) (l:=[(uh8_,sub ubz_ [1,1,0,1,0,0,1,1,0,0,1,1,0,1,0])]) uhi_ ⟨⟨by kernel_rfl,uy6_⟩,trivial⟩
theorem u58_:FO 247 uqq_ :=
 fnk (c:=ubz_) (l:=[(uh9_,sub ubz_ [1,1,0,1,0])]) uhi_ Tryz.func247 ⟨⟨by kernel_rfl,uy7_⟩,trivial⟩
def ur5_:FSpec:=⟨[.val (.agg ZZ16)],[.val (.int .i64)],uxr_,false⟩
def ui0_:CSpec:=⟨⟨[1,32,33,34],[.box (.val ZZ16),.val (.slice .str),.val (.int .i64),.val (.int .i64)]⟩,[((.exit 1),⟨[1],[.box (.val ZZ16)]⟩),(.ret,⟨[2],[.val (.int .i64)]⟩)],([2,5,6,7]++seg 34 15),urv_,[],none⟩
def u9t_:Env:=mkE [(244,ubbg_),(245,uvy_),(246,un3_),(247,uqq_)] [(4,ui0_)] [] false
theorem upa_:EnvOK Tryz.prog false u9t_:=enk ⟨ubqw_,ubco_,ut8_,u58_,trivial⟩
def ugz_:Code:=ui_ Tryz.f195
theorem u0j_:CutOK Tryz.prog false Tryz.f195.ntmps ui0_ (sub ugz_ [1,1,1,1,0,1,0]) :=
 lok (body:=sub ugz_ [1,1,1,1,0,1,0,0]) (n:=5) (l:=[]) upa_ trivial
theorem u7u_:FO 195 ur5_ :=
 fnk (c:=ugz_) (l:=[(ui0_,sub ugz_ [1,1,1,1,0,1,0])]) upa_ Tryz.func195 ⟨⟨by kernel_rfl,u0j_⟩,trivial⟩
def ubbj_:FSpec:=⟨[],[.val (.arr 4 (.int .i64))],ublk_,true⟩
def ubt1_:Env:=mkE [] [] [] true
theorem ubmu_:EO ubt1_:=enk trivial
theorem ubq7_:FO 300 ubbj_ :=
 fnk (c:=ui_ Tryz.f300) (l:=[]) ubmu_ Tryz.func300 trivial
def un4_:FSpec:=⟨[.val ZZ18,.val .str,.hof false (.int .i64) .str],[.val .str],us8_,false⟩
def umm_:CSpec:=⟨⟨[2,7,10,11,12],[.hof false (.int .i64) .str,.bld 5 false,.val ZZ18,.val (.int .i64),.val (.int .i64)]⟩,[((.exit 0),⟨[7],[.bld 5 false]⟩)],([9]++seg 12 9),uxs_,[],none⟩
def ubha_:Env:=mkE [(192,ubm_),(193,ube_)] [(0,umm_)] [] false
theorem ut9_:EnvOK Tryz.prog false ubha_:=enk ⟨ub7_,uby_,trivial⟩
def ujf_:Code:=ui_ Tryz.f467
theorem u59_:CutOK Tryz.prog false Tryz.f467.ntmps umm_ (sub ujf_ [1,1,0,1,0]) :=
 lok (body:=sub ujf_ [1,1,0,1,0,0]) (n:=1) (l:=[]) ut9_ trivial
theorem uyg_:FO 467 un4_ :=
 fnk (c:=ujf_) (l:=[(umm_,sub ujf_ [1,1,0,1,0])]) ut9_ Tryz.func467 ⟨⟨by kernel_rfl,u59_⟩,trivial⟩
def ukb_:FSpec:=⟨[.val (.slice .str),.val .str,.hof false .str .str],[.val .str],unn_,false⟩
def ui1_:CSpec:=⟨⟨[2,7,10,11,12],[.hof false .str .str,.bld 5 false,.val (.slice .str),.val (.int .i64),.val (.int .i64)]⟩,[((.exit 0),⟨[7],[.bld 5 false]⟩)],([9]++seg 12 9),urw_,[],none⟩
def u9u_:Env:=mkE [(192,ubm_),(193,ube_)] [(0,ui1_)] [] false
theorem upb_:EnvOK Tryz.prog false u9u_:=enk ⟨ub7_,uby_,trivial⟩
def ug0_:Code:=ui_ Tryz.f468
theorem u0k_:CutOK Tryz.prog false Tryz.f468.ntmps ui1_ (sub ug0_ [1,1,0,1,0]) :=
 lok (body:=sub ug0_ [1,1,0,1,0,0]) (n:=1) (l:=[]) upb_ trivial
theorem ur6_:FO 468 ukb_ :=
 fnk (c:=ug0_) (l:=[(ui1_,sub ug0_ [1,1,0,1,0])]) upb_ Tryz.func468 ⟨⟨by kernel_rfl,u0k_⟩,trivial⟩
def u7v_:FSpec:=⟨[.val .str],[.val .str],ubh9_,false⟩
def ubq8_:Env:=mkE [(314,ubn_),(360,uc3_)] [] [] false
theorem ubj0_:EnvOK Tryz.prog false ubq8_:=enk ⟨ubw_,udi_,trivial⟩
theorem ubo1_:FO 469 u7v_ :=
 fnk (c:=ui_ Tryz.f469) (l:=[]) ubj0_ Tryz.func469 trivial
def ujg_:FSpec:=⟨[.val (.agg (.prod (.arr 3 (.int .i64)) (.slice .str)))],[.val .str],uoi_,false⟩
def ubj1_:Env:=mkE [(360,uc3_),(467,un4_),(468,ukb_),(469,u7v_)] [] [] false
theorem ubcp_:EnvOK Tryz.prog false ubj1_:=enk ⟨udi_,uyg_,ur6_,ubo1_,trivial⟩
theorem up1_:FO 464 ujg_ :=
 fnk (c:=ui_ Tryz.f464) (l:=[]) ubcp_ Tryz.func464 trivial
def uiu_:FSpec:=⟨[.val (.agg ZZ26)],[.val .str],umw_,false⟩
def ubhb_:Env:=mkE [(360,uc3_),(474,up0_),(475,umk_)] [] [] false
theorem u9v_:EnvOK Tryz.prog false ubhb_:=enk ⟨udi_,uz4_,uvv_,trivial⟩
theorem un5_:FO 471 uiu_ :=
 fnk (c:=ui_ Tryz.f471) (l:=[]) u9v_ Tryz.func471 trivial
def uua_:FSpec:=⟨[.val (.int .i64)],[.val .str],uzq_,false⟩
def ubcq_:Env:=mkE [(360,uc3_)] [] [] false
theorem u6a_:EnvOK Tryz.prog false ubcq_:=enk ⟨udi_,trivial⟩
theorem u9w_:FO 482 uua_ :=
 fnk (c:=ui_ Tryz.f482) (l:=[]) u6a_ Tryz.func482 trivial
def uvz_:FSpec:=⟨[.val (.agg ZZ10)],[.val (.int .i64)],u1l_,true⟩
def ubfd_:Env:=mkE [] [] [] true
theorem u7w_:EO ubfd_:=enk trivial
theorem ubcr_:FO 483 uvz_ :=
 fnk (c:=ui_ Tryz.f483) (l:=[]) u7w_ Tryz.func483 trivial
def ubfe_:FSpec:=⟨[.val (.int .i64)],[.val .str],ubpv_,false⟩
def ubu8_:Env:=mkE [(360,uc3_)] [] [] false
theorem ubo2_:EnvOK Tryz.prog false ubu8_:=enk ⟨udi_,trivial⟩
theorem ubt2_:FO 484 ubfe_ :=
 fnk (c:=ui_ Tryz.f484) (l:=[]) ubo2_ Tryz.func484 trivial
def u45_:FSpec:=⟨[.val .str],[.val .str],ubdx_,false⟩
def ubo3_:Env:=mkE [(314,ubn_),(360,uc3_)] [] [] false
theorem ubhc_:EnvOK Tryz.prog false ubo3_:=enk ⟨ubw_,udi_,trivial⟩
theorem ubmv_:FO 485 u45_ :=
 fnk (c:=ui_ Tryz.f485) (l:=[]) ubhc_ Tryz.func485 trivial
def ujh_:FSpec:=⟨[.val (.agg ZZ10)],[.val .str],uoj_,false⟩
def un6_:CSpec:=⟨⟨[1,3,27],[.box (.val ZZ10),.val .str,.val .bool]⟩,[(.normal,⟨[1,3],[.box (.val ZZ10),.val .str]⟩)],([3]++seg 28 8),uzr_,[],none⟩
def ubj2_:Env:=mkE [(360,uc3_),(361,uc2_),(467,un4_),(468,ukb_),(481,uwv_),(482,uua_),(483,uvz_),(484,ubfe_),(485,u45_)] [(0,un6_)] [] false
theorem uv0_:EnvOK Tryz.prog false ubj2_:=enk ⟨udi_,udh_,uyg_,ur6_,u7q_,u9w_,ubcr_,ubt2_,ubmv_,trivial⟩
def ufg_:Code:=ui_ Tryz.f479
theorem u7x_:CutOK Tryz.prog false Tryz.f479.ntmps un6_ (sub ufg_ [1,1,1,0,1]) :=
 brk (c:=ul8_ (sub ufg_ [1,1,1,0,1])) (x:=sub ufg_ [1,1,1,0,1,0]) (y:=sub ufg_ [1,1,1,0,1,1]) (n:=0) (lx:=[]) (ly:=[]) uv0_ trivial trivial
theorem up2_:FO 479 ujh_ :=
 fnk (c:=ufg_) (l:=[(un6_,sub ufg_ [1,1,1,0,1])]) uv0_ Tryz.func479 ⟨⟨by kernel_rfl,u7x_⟩,trivial⟩
def u2t_:FSpec:=⟨[],[.val (.slice .str)],ubdy_,true⟩
def ubu9_:Env:=mkE [] [] [] true
theorem ubo4_:EO ubu9_:=enk trivial
theorem ubff_:FO 491 u2t_ :=
 fnk (c:=ui_ Tryz.f491) (l:=[]) ubo4_ Tryz.func491 trivial
def un7_:FSpec:=⟨[.val (.slice .str),.val .str],[.val (.int .i64)],us9_,true⟩
def umn_:CSpec:=⟨⟨[0,1,7,8],[.val (.slice .str),.val .str,.val (.int .i64),.val (.int .i64)]⟩,[((.exit 0),⟨[],[]⟩),(.ret,⟨[4],[.val (.int .i64)]⟩)],([4,5]++seg 8 11),uxt_,[],none⟩
def ubhd_:Env:=mkE [] [(0,umn_)] [] true
theorem uub_:EO ubhd_:=enk trivial
def uji_:Code:=ui_ Tryz.f122
theorem u6b_:CO Tryz.f122.ntmps umn_ (sub uji_ [1,0,1,0]) :=
 lok (body:=sub uji_ [1,0,1,0,0]) (n:=1) (l:=[]) uub_ trivial
theorem uyh_:FO 122 un7_ :=
 fnk (c:=uji_) (l:=[(umn_,sub uji_ [1,0,1,0])]) uub_ Tryz.func122 ⟨⟨by kernel_rfl,u6b_⟩,trivial⟩
def ugg_:FSpec:=⟨[.val (.slice .str),.val .str],[.val .bool],uii_,true⟩
def u9x_:Env:=mkE [(122,un7_)] [] [] true
theorem u3w_:EO u9x_:=enk ⟨uyh_,trivial⟩
theorem ukc_:FO 90 ugg_ :=
 fnk (c:=ui_ Tryz.f90) (l:=[]) u3w_ Tryz.func90 trivial
def umo_:FSpec:=⟨[.val ZZ20],[.val .bool],uq3_,true⟩
def ubfg_:Env:=mkE [(90,ugg_),(491,u2t_)] [] [] true
theorem u7y_:EO ubfg_:=enk ⟨ukc_,ubff_,trivial⟩
theorem uv1_:FO 489 umo_ :=
 fnk (c:=ui_ Tryz.f489) (l:=[]) u7y_ Tryz.func489 trivial
def u46_:FSpec:=⟨[.val ZZ20],[.val .str],u1m_,false⟩
def ubo5_:Env:=mkE [(122,un7_),(360,uc3_),(361,uc2_),(489,umo_),(491,u2t_)] [] [] false
theorem ubhe_:EnvOK Tryz.prog false ubo5_:=enk ⟨uyh_,udi_,udh_,uv1_,ubff_,trivial⟩
theorem ubmw_:FO 490 u46_ :=
 fnk (c:=ui_ Tryz.f490) (l:=[]) ubhe_ Tryz.func490 trivial
def ug1_:FSpec:=⟨[.val (.agg (.slice ZZ20))],[.val .str],ui9_,false⟩
def ukd_:CSpec:=⟨⟨[3,4,8,9,10],[.val .str,.val (.int .i64),.val (.slice ZZ20),.val (.int .i64),.val (.int .i64)]⟩,[((.exit 0),⟨[3],[.val .str]⟩)],([3,4,6]++seg 10 31),uta_,[],none⟩
def ubcs_:Env:=mkE [(322,uis_),(361,uc2_),(489,umo_),(490,u46_)] [(0,ukd_)] [] false
theorem uqr_:EnvOK Tryz.prog false ubcs_:=enk ⟨uny_,udh_,uv1_,ubmw_,trivial⟩
def uhp_:Code:=ui_ Tryz.f487
theorem u2u_:CutOK Tryz.prog false Tryz.f487.ntmps ukd_ (sub uhp_ [1,1,0,1,0]) :=
 lok (body:=sub uhp_ [1,1,0,1,0,0]) (n:=1) (l:=[]) uqr_ trivial
theorem uld_:FO 487 ug1_ :=
 fnk (c:=uhp_) (l:=[(ukd_,sub uhp_ [1,1,0,1,0])]) uqr_ Tryz.func487 ⟨⟨by kernel_rfl,u2u_⟩,trivial⟩
def ule_:FSpec:=⟨[.val (.agg (.int .i64))],[.val .str],uqs_,false⟩
def ubmx_:Env:=mkE [(360,uc3_)] [] [] false
theorem ubfh_:EnvOK Tryz.prog false ubmx_:=enk ⟨udi_,trivial⟩
theorem urm_:FO 493 ule_ :=
 fnk (c:=ui_ Tryz.f493) (l:=[]) ubfh_ Tryz.func493 trivial
def ubmy_:FSpec:=⟨[.val (.int .i64),.val .str],[.val .str,.val (.int .i64)],ubv1_,false⟩
def ubz8_:Env:=mkE [(198,ul7_),(464,ujg_),(471,uiu_),(479,ujh_),(487,ug1_),(493,ule_)] [] [] false
theorem ubt3_:EnvOK Tryz.prog false ubz8_:=enk ⟨uqn_,up1_,un5_,up2_,uld_,urm_,trivial⟩
theorem ubxy_:FO 301 ubmy_ :=
 fnk (c:=ui_ Tryz.f301) (l:=[]) ubt3_ Tryz.func301 trivial
def ud4_:FSpec:=⟨[.io 416 ZZ14,.val (.int .i64),.val (.int .i64),.hof false ZZ33 (.int .i64)],[],ub6_,false⟩
def ubt_:CSpec:=⟨⟨[0,1,3,9],[.own 416 ZZ14 true,.val (.int .i64),.hof false ZZ33 (.int .i64),.val (.int .i64)]⟩,[((.exit 2),⟨[0],[.own 416 ZZ14 true]⟩)],([9]++seg 18 35),ud2_,[],none⟩
def ubu_:CSpec:=⟨⟨[0,1,2,3,8],[.own 416 ZZ14 true,.val (.int .i64),.val (.int .i64),.hof false ZZ33 (.int .i64),.val (.int .i64)]⟩,[((.exit 0),⟨[0],[.own 416 ZZ14 true]⟩)],([8,9]++seg 12 41),ud3_,[],none⟩
def ukq_:Env:=mkE [] [(2,ubt_),(0,ubu_)] [] false
theorem ubq_:EnvOK Tryz.prog false ukq_:=enk trivial
def uq_:Code:=ui_ Tryz.f398
theorem uia_:CutOK Tryz.prog false Tryz.f398.ntmps ubt_ (sub uq_ [1,0,0,1,0,0,1,0]) :=
 lok (body:=sub uq_ [1,0,0,1,0,0,1,0,0]) (n:=3) (l:=[]) ubq_ trivial
theorem uib_:CutOK Tryz.prog false Tryz.f398.ntmps ubu_ (sub uq_ [1,0]) :=
 lok (body:=sub uq_ [1,0,0]) (n:=1) (l:=[(ubt_,sub uq_ [1,0,0,1,0,0,1,0])]) ubq_ ⟨⟨by kernel_rfl,uia_⟩,trivial⟩
theorem uke_:FO 398 ud4_ :=
 fnk (c:=uq_) (l:=[(ubu_,sub uq_ [1,0])]) ubq_ Tryz.func398 ⟨⟨by kernel_rfl,uib_⟩,trivial⟩
def ufa_:FSpec:=⟨[.io 416 ZZ14,.val (.int .i64),.val (.int .i64),.val (.int .i64),.hof false ZZ33 (.int .i64)],[],ubs_,true⟩
def ub8_:CSpec:=⟨⟨[0,1,2,3,10],[.own 416 ZZ14 true,.val (.int .i64),.val (.int .i64),.val (.int .i64),.val (.int .i64)]⟩,[((.exit 0),⟨[0],[.own 416 ZZ14 true]⟩)],(seg 10 28),ue4_,[],none⟩
def unh_:Env:=mkE [] [(0,ub8_)] [] true
theorem ueq_:EO unh_:=enk trivial
def ubg_:Code:=ui_ Tryz.f431
theorem ukf_:CO Tryz.f431.ntmps ub8_ (sub ubg_ [1,0]) :=
 lok (body:=sub ubg_ [1,0,0]) (n:=1) (l:=[]) ueq_ trivial
theorem ump_:FO 431 ufa_ :=
 fnk (c:=ubg_) (l:=[(ub8_,sub ubg_ [1,0])]) ueq_ Tryz.func431 ⟨⟨by kernel_rfl,ukf_⟩,trivial⟩
def ugh_:FSpec:=⟨[.io 416 ZZ14,.val (.int .i64),.val (.int .i64),.val (.int .i64),.hof false ZZ33 (.int .i64)],[],uha_,true⟩
def ucx_:CSpec:=⟨⟨[0,2,4,10,11],[.own 416 ZZ14 true,.val (.int .i64),.hof false ZZ33 (.int .i64),.val (.int .i64),.val (.int .i64)]⟩,[((.exit 0),⟨[0,10],[.own 416 ZZ14 true,.val (.int .i64)]⟩)],([10,11]++seg 18 32),uf7_,[],none⟩
def up3_:Env:=mkE [(431,ufa_)] [(0,ucx_)] [] true
theorem ufl_:EO up3_:=enk ⟨ump_,trivial⟩
def ubv_:Code:=ui_ Tryz.f415
theorem uly_:CO Tryz.f415.ntmps ucx_ (sub ubv_ [1,1,0,0]) :=
 lok (body:=sub ubv_ [1,1,0,0,0]) (n:=1) (l:=[]) ufl_ trivial
theorem uo0_:FO 415 ugh_ :=
 fnk (c:=ubv_) (l:=[(ucx_,sub ubv_ [1,1,0,0])]) ufl_ Tryz.func415 ⟨⟨by kernel_rfl,uly_⟩,trivial⟩
def uf_ (n:Nat):FSpec:=⟨[.io 416 ZZ14,.val (.int .i64),.val (.int .i64),.val (.int .i64),.hof false ZZ33 (.int .i64)],[],uj_ n,false⟩
def ufm_:FSpec:=⟨[.io 416 ZZ14,.val (.int .i64),.val (.int .i64),.val (.int .i64),.hof false ZZ33 (.int .i64)],[],udb_,false⟩
def ufn_ (n:Nat):List (Nat×FSpec):=[(399,(uf_ n)),(415,ugh_)]
theorem ulf_ (n:Nat) (ih:FO 399 (uf_ n)):FsOK Tryz.prog (ufn_ n):=⟨ih,uo0_,trivial⟩
def ucg_ (n:Nat):CSpec:=⟨⟨[0,1,4,10,11],[.own 416 ZZ14 true,.val (.int .i64),.hof false ZZ33 (.int .i64),.val (.int .i64),.val (.int .i64)]⟩,[((.exit 0),⟨[0,10],[.own 416 ZZ14 true,.val (.int .i64)]⟩)],([10,11,12]++seg 31 23),(ufi_ (uj_ n)),[],none⟩
def uch_ (n:Nat):CSpec:=⟨⟨[0,10,13],[.own 416 ZZ14 true,.val (.int .i64),.val (.int .i64)]⟩,[((.exit 2),⟨[0],[.own 416 ZZ14 true]⟩)],([13]++seg 55 22),(ufj_ (uj_ n)),[],none⟩
def uci_ (n:Nat):CSpec:=⟨⟨[0,2,4,14,15],[.own 416 ZZ14 true,.val (.int .i64),.hof false ZZ33 (.int .i64),.val (.int .i64),.val (.int .i64)]⟩,[((.exit 4),⟨[0,14],[.own 416 ZZ14 true,.val (.int .i64)]⟩)],([14,15,16]++seg 83 24),(ufk_ (uj_ n)),[],none⟩
def ub9_ (n:Nat):CSpec:=⟨⟨[0,14,17],[.own 416 ZZ14 true,.val (.int .i64),.val (.int .i64)]⟩,[((.exit 6),⟨[0],[.own 416 ZZ14 true]⟩)],([17]++seg 108 21),(ue5_ (uj_ n)),[],none⟩
def uca_ (n:Nat):CSpec:=⟨⟨[1,2,3,18,19,140],[.val (.int .i64),.val (.int .i64),.val (.int .i64),.val (.int .i64),.val (.int .i64),.val .bool]⟩,[(.normal,⟨[20,21],[.val (.int .i64),.val (.int .i64)]⟩)],[20,21,141,142,143,144,145,146],(ue6_ (uj_ n)),[],none⟩
def ucb_ (n:Nat):CSpec:=⟨⟨[0,4,20,21,22],[.own 416 ZZ14 true,.hof false ZZ33 (.int .i64),.val (.int .i64),.val (.int .i64),.val (.int .i64)]⟩,[((.exit 8),⟨[0,20],[.own 416 ZZ14 true,.val (.int .i64)]⟩)],([20,21,23]++seg 149 26),(ue7_ (uj_ n)),[],none⟩
def ucc_ (n:Nat):CSpec:=⟨⟨[0,2,4,20,24,185],[.own 416 ZZ14 true,.val (.int .i64),.hof false ZZ33 (.int .i64),.val (.int .i64),.val (.int .i64),.val .bool]⟩,[(.normal,⟨[0],[.own 416 ZZ14 true]⟩)],[186,187,188,189,190,191],(ue8_ (uj_ n)),[],none⟩
def ucd_ (n:Nat):CSpec:=⟨⟨[0,1,4,18,20,199],[.own 416 ZZ14 true,.val (.int .i64),.hof false ZZ33 (.int .i64),.val (.int .i64),.val (.int .i64),.val .bool]⟩,[(.normal,⟨[0],[.own 416 ZZ14 true]⟩)],[200,201,202,203,204,205],(ue9_ (uj_ n)),[],none⟩
def un8_ (n:Nat):Env:=mkE (ufn_ n) [(1,(ucg_ n)),(4,(uch_ n)),(7,(uci_ n)),(10,(ub9_ n)),(12,(uca_ n)),(13,(ucb_ n)),(16,(ucc_ n)),(17,(ucd_ n))] [] false
theorem ul_ (n:Nat) (ih:FO 399 (uf_ n)):EnvOK Tryz.prog false (un8_ n):=enk (ulf_ n ih)
def ua_:Code:=ui_ Tryz.f399
theorem ukr_ (n:Nat) (ih:FO 399 (uf_ n)):CutOK Tryz.prog false Tryz.f399.ntmps (ucg_ n) (sub ua_ [0,1,0,1,1,0,0]) :=
 lok (body:=sub ua_ [0,1,0,1,1,0,0,0]) (n:=2) (l:=[]) (ul_ n ih) trivial
theorem uks_ (n:Nat) (ih:FO 399 (uf_ n)):CutOK Tryz.prog false Tryz.f399.ntmps (uch_ n) (sub ua_ [0,1,0,1,1,1,0,1,0]) :=
 lok (body:=sub ua_ [0,1,0,1,1,1,0,1,0,0]) (n:=5) (l:=[]) (ul_ n ih) trivial
theorem ukt_ (n:Nat) (ih:FO 399 (uf_ n)):CutOK Tryz.prog false Tryz.f399.ntmps (uci_ n) (sub ua_ [1,0,1,0,1,1,0,0]) :=
 lok (body:=sub ua_ [1,0,1,0,1,1,0,0,0]) (n:=8) (l:=[]) (ul_ n ih) trivial
theorem ukg_ (n:Nat) (ih:FO 399 (uf_ n)):CutOK Tryz.prog false Tryz.f399.ntmps (ub9_ n) (sub ua_ [1,0,1,0,1,1,1,0,1,0]) :=
 lok (body:=sub ua_ [1,0,1,0,1,1,1,0,1,0,0]) (n:=11) (l:=[]) (ul_ n ih) trivial
theorem ukh_ (n:Nat) (ih:FO 399 (uf_ n)):CutOK Tryz.prog false Tryz.f399.ntmps (uca_ n) (sub ua_ [1,1,1,1,1,0,1]) :=
 brk (c:=ul8_ (sub ua_ [1,1,1,1,1,0,1])) (x:=sub ua_ [1,1,1,1,1,0,1,0]) (y:=sub ua_ [1,1,1,1,1,0,1,1]) (n:=12) (lx:=[]) (ly:=[]) (ul_ n ih) trivial trivial
theorem uki_ (n:Nat) (ih:FO 399 (uf_ n)):CutOK Tryz.prog false Tryz.f399.ntmps (ucb_ n) (sub ua_ [1,1,1,1,1,1,1,0,0]) :=
 lok (body:=sub ua_ [1,1,1,1,1,1,1,0,0,0]) (n:=14) (l:=[]) (ul_ n ih) trivial
theorem ukj_ (n:Nat) (ih:FO 399 (uf_ n)):CutOK Tryz.prog false Tryz.f399.ntmps (ucc_ n) (sub ua_ [1,1,1,1,1,1,1,1,1,0,1]) :=
 brk (c:=ul8_ (sub ua_ [1,1,1,1,1,1,1,1,1,0,1])) (x:=sub ua_ [1,1,1,1,1,1,1,1,1,0,1,0]) (y:=sub ua_ [1,1,1,1,1,1,1,1,1,0,1,1]) (n:=16) (lx:=[]) (ly:=[]) (ul_ n ih) trivial trivial
theorem ukk_ (n:Nat) (ih:FO 399 (uf_ n)):CutOK Tryz.prog false Tryz.f399.ntmps (ucd_ n) (sub ua_ [1,1,1,1,1,1,1,1,1,1,0,1]) :=
 brk (c:=ul8_ (sub ua_ [1,1,1,1,1,1,1,1,1,1,0,1])) (x:=sub ua_ [1,1,1,1,1,1,1,1,1,1,0,1,0]) (y:=sub ua_ [1,1,1,1,1,1,1,1,1,1,0,1,1]) (n:=17) (lx:=[]) (ly:=[]) (ul_ n ih) trivial trivial
theorem ulz_ (n:Nat) (ih:FO 399 (uf_ n)):FO 399 (uf_ (n+1)) :=
 fnk (c:=ua_) (l:=[((ucg_ n),sub ua_ [0,1,0,1,1,0,0]),((uch_ n),sub ua_ [0,1,0,1,1,1,0,1,0]),((uci_ n),sub ua_ [1,0,1,0,1,1,0,0]),((ub9_ n),sub ua_ [1,0,1,0,1,1,1,0,1,0]),((uca_ n),sub ua_ [1,1,1,1,1,0,1]),((ucb_ n),sub ua_ [1,1,1,1,1,1,1,0,0]),((ucc_ n),sub ua_ [1,1,1,1,1,1,1,1,1,0,1]),((ucd_ n),sub ua_ [1,1,1,1,1,1,1,1,1,1,0,1])]) (ul_ n ih) Tryz.func399 ⟨⟨by kernel_rfl,(ukr_ n ih)⟩,⟨by kernel_rfl,(uks_ n ih)⟩,⟨by kernel_rfl,(ukt_ n ih)⟩,⟨by kernel_rfl,(ukg_ n ih)⟩,⟨by kernel_rfl,(ukh_ n ih)⟩,⟨by kernel_rfl,(uki_ n ih)⟩,⟨by kernel_rfl,(ukj_ n ih)⟩,⟨by kernel_rfl,(ukk_ n ih)⟩,trivial⟩
theorem ul0_:∀ n,FO 399 (uf_ n):=fun n=>Nat.rec ⟨⟨Tryz.f399,ua_,Tryz.func399,by kernel_rfl,by kernel_rfl⟩,fun w I v args bs _ _ _ r hr=>by cases hr⟩ (fun n ih=>ulz_ n ih) n
theorem uni_:FO 399 ufm_:=ul0_ 100
def ugi_:FSpec:=⟨[.io 416 ZZ14,.val (.int .i64),.hof false ZZ33 (.int .i64)],[],uhb_,false⟩
def ucy_:CSpec:=⟨⟨[0,1,2,6,7,8],[.own 416 ZZ14 true,.val (.int .i64),.hof false ZZ33 (.int .i64),.val (.int .i64),.val (.int .i64),.val (.int .i64)]⟩,[((.exit 0),⟨[0,7],[.own 416 ZZ14 true,.val (.int .i64)]⟩)],([7,8]++seg 11 12),uf8_,[],none⟩
def ucz_:CSpec:=⟨⟨[0,1,2,6,7,8],[.own 416 ZZ14 true,.val (.int .i64),.hof false ZZ33 (.int .i64),.val (.int .i64),.val (.int .i64),.val (.int .i64)]⟩,[((.exit 4),⟨[0,7],[.own 416 ZZ14 true,.val (.int .i64)]⟩)],([7,8]++seg 33 16),uf9_,[],none⟩
def uc0_:CSpec:=⟨⟨[0,1,2,6],[.own 416 ZZ14 true,.val (.int .i64),.hof false ZZ33 (.int .i64),.val (.int .i64)]⟩,[((.exit 2),⟨[0],[.own 416 ZZ14 true]⟩)],([6,7,8,9]++seg 28 35),uga_,[],none⟩
def up4_:Env:=mkE [(398,ud4_),(399,ufm_)] [(0,ucy_),(4,ucz_),(2,uc0_)] [] false
theorem ubh_:EnvOK Tryz.prog false up4_:=enk ⟨uke_,uni_,trivial⟩
def un_:Code:=ui_ Tryz.f362
theorem ul1_:CutOK Tryz.prog false Tryz.f362.ntmps ucy_ (sub un_ [1,1,0,0]) :=
 lok (body:=sub un_ [1,1,0,0,0]) (n:=1) (l:=[]) ubh_ trivial
theorem ul2_:CutOK Tryz.prog false Tryz.f362.ntmps ucz_ (sub un_ [1,1,1,1,0,0,1,0,1,0,0]) :=
 lok (body:=sub un_ [1,1,1,1,0,0,1,0,1,0,0,0]) (n:=5) (l:=[]) ubh_ trivial
theorem ul3_:CutOK Tryz.prog false Tryz.f362.ntmps uc0_ (sub un_ [1,1,1,1,0]) :=
 lok (body:=sub un_ [1,1,1,1,0,0]) (n:=3) (l:=[(ucz_,sub un_ [1,1,1,1,0,0,1,0,1,0,0])]) ubh_ ⟨⟨by kernel_rfl,ul2_⟩,trivial⟩
theorem uo1_:FO 362 ugi_ :=
 fnk (c:=un_) (l:=[(ucy_,sub un_ [1,1,0,0]),(uc0_,sub un_ [1,1,1,1,0])]) ubh_ Tryz.func362 ⟨⟨by kernel_rfl,ul1_⟩,⟨by kernel_rfl,ul3_⟩,trivial⟩
def uf3_:FSpec:=⟨[.io 416 ZZ14,.hof false ZZ33 (.int .i64)],[],ug4_,false⟩
def uo2_:Env:=mkE [(362,ugi_)] [] [] false
theorem umq_:EnvOK Tryz.prog false uo2_:=enk ⟨uo1_,trivial⟩
theorem un9_:FO 302 uf3_ :=
 fnk (c:=ui_ Tryz.f302) (l:=[]) umq_ Tryz.func302 trivial
def uyi_:FSpec:=⟨[.val ZZ14,.val ZZ14],[.val (.int .i64)],u4l_,true⟩
def ubhf_:Env:=mkE [(30,ur0_),(31,ufe_),(46,udc_)] [] [] true
theorem u9y_:EO ubhf_:=enk ⟨uxx_,ug8_,ueu_,trivial⟩
theorem ubfi_:FO 303 uyi_ :=
 fnk (c:=ui_ Tryz.f303) (l:=[]) u9y_ Tryz.func303 trivial
def u47_:FSpec:=⟨[.val (.agg ZZ16)],[.val (.slice ZZ14)],ubd0_,false⟩
def urn_:CSpec:=⟨⟨[1,3,8,9,10],[.box (.val ZZ16),.own 416 ZZ14 true,.val (.slice (.agg (.prod (.int .i64) .str))),.val (.int .i64),.val (.int .i64)]⟩,[((.exit 0),⟨[3],[.own 416 ZZ14 true]⟩)],([3,5,6]++seg 10 37),u4m_,[],none⟩
def ubo6_:Env:=mkE [(246,un3_),(300,ubbj_),(301,ubmy_),(302,uf3_),(303,uyi_)] [(0,urn_)] [] false
theorem uz5_:EnvOK Tryz.prog false ubo6_:=enk ⟨ut8_,ubq7_,ubxy_,un9_,ubfi_,trivial⟩
def uo3_:Code:=ui_ Tryz.f255
theorem ubct_:CutOK Tryz.prog false Tryz.f255.ntmps urn_ (sub uo3_ [1,1,0,1,0]) :=
 lok (body:=sub uo3_ [1,1,0,1,0,0]) (n:=1) (l:=[]) uz5_ trivial
theorem ubmz_:FO 255 u47_ :=
 fnk (c:=uo3_) (l:=[(urn_,sub uo3_ [1,1,0,1,0])]) uz5_ Tryz.func255 ⟨⟨by kernel_rfl,ubct_⟩,trivial⟩
def ubbk_:FSpec:=⟨[.val (.agg ZZ16)],[.val (.slice ZZ9)],ublm_,false⟩
def uww_:CSpec:=⟨⟨[3,4,5,15,16,17],[.own 402 ZZ9 false,.val .bool,.box (.val ZZ29),.val (.slice ZZ14),.val (.int .i64),.val (.int .i64)]⟩,[((.exit 0),⟨[3,4,5],[.own 402 ZZ9 false,.val .bool,.box (.val ZZ29)]⟩)],([3,4,7,8]++seg 17 39),ubap_,[],none⟩
def uwx_:CSpec:=⟨⟨[3,5,56],[.own 402 ZZ9 false,.box (.val ZZ29),.val .bool]⟩,[(.normal,⟨[3],[.own 402 ZZ9 false]⟩)],[3,57,58,59,60,61],ubaq_,[],none⟩
def uwy_:CSpec:=⟨⟨[1,3,63,64,65],[.box (.val ZZ16),.own 402 ZZ9 false,.val (.slice .str),.val (.int .i64),.val (.int .i64)]⟩,[((.exit 3),⟨[3],[.own 402 ZZ9 false]⟩)],([3,10,11,12,13]++seg 65 20),ubar_,[],none⟩
def ubt4_:Env:=mkE [(246,un3_),(255,u47_)] [(0,uww_),(5,uwx_),(6,uwy_)] [] false
theorem um8_:EnvOK Tryz.prog false ubt4_:=enk ⟨ut8_,ubmz_,trivial⟩
def uce_:Code:=ui_ Tryz.f197
theorem ubhg_:CutOK Tryz.prog false Tryz.f197.ntmps uww_ (sub uce_ [1,1,1,1,0,1,0]) :=
 lok (body:=sub uce_ [1,1,1,1,0,1,0,0]) (n:=1) (l:=[]) um8_ trivial
theorem ubhh_:CutOK Tryz.prog false Tryz.f197.ntmps uwx_ (sub uce_ [1,1,1,1,1,0,1]) :=
 brk (c:=ul8_ (sub uce_ [1,1,1,1,1,0,1])) (x:=sub uce_ [1,1,1,1,1,0,1,0]) (y:=sub uce_ [1,1,1,1,1,0,1,1]) (n:=5) (lx:=[]) (ly:=[]) um8_ trivial trivial
theorem ubhi_:CutOK Tryz.prog false Tryz.f197.ntmps uwy_ (sub uce_ [1,1,1,1,1,1,0,1,0]) :=
 lok (body:=sub uce_ [1,1,1,1,1,1,0,1,0,0]) (n:=7) (l:=[]) um8_ trivial
theorem ubq9_:FO 197 ubbk_ :=
 fnk (c:=uce_) (l:=[(uww_,sub uce_ [1,1,1,1,0,1,0]),(uwx_,sub uce_ [1,1,1,1,1,0,1]),(uwy_,sub uce_ [1,1,1,1,1,1,0,1,0])]) um8_ Tryz.func197 ⟨⟨by kernel_rfl,ubhg_⟩,⟨by kernel_rfl,ubhh_⟩,⟨by kernel_rfl,ubhi_⟩,trivial⟩
def up5_:FSpec:=⟨[.val (.int .i64),.val (.agg ZZ29)],[.val .str,.val (.int .i64)],ujv_,false⟩
def ubj3_:Env:=mkE [(198,ul7_),(463,umi_),(464,ujg_),(470,uk4_),(471,uiu_),(478,uml_),(479,ujh_),(486,uiz_),(487,ug1_),(492,un2_),(493,ule_)] [] [] false
theorem ubcu_:EnvOK Tryz.prog false ubj3_:=enk ⟨uqn_,uvu_,up1_,ut6_,un5_,uvx_,up2_,uqp_,uld_,uyf_,urm_,trivial⟩
theorem uz6_:FO 248 up5_ :=
 fnk (c:=ui_ Tryz.f248) (l:=[]) ubcu_ Tryz.func248 trivial
def uwz_:FSpec:=⟨[.val (.agg ZZ29),.val .str],[.val (.agg ZZ25)],u5r_,true⟩
def ubra_:Env:=mkE [] [] [] true
theorem ubj4_:EO ubra_:=enk trivial
theorem u7z_:FO 249 uwz_ :=
 fnk (c:=ui_ Tryz.f249) (l:=[]) ubj4_ Tryz.func249 trivial
def uuc_:FSpec:=⟨[.val (.agg ZZ29),.val .str],[.val (.agg ZZ25)],u1n_,true⟩
def ubo7_:Env:=mkE [] [] [] true
theorem ubhj_:EO ubo7_:=enk trivial
theorem u48_:FO 250 uuc_ :=
 fnk (c:=ui_ Tryz.f250) (l:=[]) ubhj_ Tryz.func250 trivial
def ugr_:FSpec:=⟨[.val (.agg ZZ25),.val (.agg ZZ25)],[.val (.int .i64)],uc8_,true⟩
def ubj5_:Env:=mkE [(31,ufe_),(46,udc_)] [] [] true
theorem ubcv_:EO ubj5_:=enk ⟨ug8_,ueu_,trivial⟩
theorem ujj_:FO 251 ugr_ :=
 fnk (c:=ui_ Tryz.f251) (l:=[]) ubcv_ Tryz.func251 trivial
def u49_:FSpec:=⟨[.val (.agg ZZ8),.val (.agg ZZ8)],[.val (.int .i64)],ubd1_,true⟩
def ubo8_:Env:=mkE [(251,ugr_)] [] [] true
theorem ubhk_:EO ubo8_:=enk ⟨ujj_,trivial⟩
theorem ubm0_:FO 253 u49_ :=
 fnk (c:=ui_ Tryz.f253) (l:=[]) ubhk_ Tryz.func253 trivial
def uv2_:FSpec:=⟨[.val (.agg ZZ8)],[.val (.int .i64),.val (.int .i64),.val .bool],u1o_,false⟩
def ulg_:CSpec:=⟨⟨[1,5,10],[.box (.val ZZ8),.val (.int .i64),.val .bool]⟩,[(.normal,⟨[1,5],[.box (.val ZZ8),.val (.int .i64)]⟩)],([5]++seg 11 12),uvi_,[],none⟩
def ubfj_:Env:=mkE [(314,ubn_)] [(0,ulg_)] [] false
theorem ur7_:EnvOK Tryz.prog false ubfj_:=enk ⟨ubw_,trivial⟩
def ud5_:Code:=ui_ Tryz.f359
theorem u3x_:CutOK Tryz.prog false Tryz.f359.ntmps ulg_ (sub ud5_ [1,1,0,1]) :=
 brk (c:=ul8_ (sub ud5_ [1,1,0,1])) (x:=sub ud5_ [1,1,0,1,0]) (y:=sub ud5_ [1,1,0,1,1]) (n:=0) (lx:=[]) (ly:=[]) ur7_ trivial trivial
theorem ubcw_:FO 359 uv2_ :=
 fnk (c:=ud5_) (l:=[(ulg_,sub ud5_ [1,1,0,1])]) ur7_ Tryz.func359 ⟨⟨by kernel_rfl,u3x_⟩,trivial⟩
def ubbl_:FSpec:=⟨[.val ZZ34],[.val ZZ34],ubln_,false⟩
def uw0_:CSpec:=⟨⟨[8,10,27],[.val (.int .i64),.box (.val ZZ25),.val .bool]⟩,[(.normal,⟨[10],[.box (.val ZZ25)]⟩)],[28,29,30,31,32],ubas_,[],none⟩
def uw1_:CSpec:=⟨⟨[3,4,11,12,13],[.own 408 (.agg ZZ8) true,.val (.int .i64),.val ZZ34,.val (.int .i64),.val (.int .i64)]⟩,[((.exit 0),⟨[3],[.own 408 (.agg ZZ8) true]⟩)],([3,4,6,7,8,9,10]++seg 13 48),ubat_,[],none⟩
def ubt5_:Env:=mkE [(359,uv2_),(360,uc3_),(361,uc2_)] [(3,uw0_),(0,uw1_)] [] false
theorem uud_:EnvOK Tryz.prog false ubt5_:=enk ⟨ubcw_,udi_,udh_,trivial⟩
def uer_:Code:=ui_ Tryz.f299
theorem ubhl_:CutOK Tryz.prog false Tryz.f299.ntmps uw0_ (sub uer_ [1,1,1,0,1,0,0,1,1,0,0,1,1,1,1,0,1]) :=
 brk (c:=ul8_ (sub uer_ [1,1,1,0,1,0,0,1,1,0,0,1,1,1,1,0,1])) (x:=sub uer_ [1,1,1,0,1,0,0,1,1,0,0,1,1,1,1,0,1,0]) (y:=sub uer_ [1,1,1,0,1,0,0,1,1,0,0,1,1,1,1,0,1,1]) (n:=3) (lx:=[]) (ly:=[]) uud_ trivial trivial
theorem ubhm_:CutOK Tryz.prog false Tryz.f299.ntmps uw1_ (sub uer_ [1,1,1,0,1,0]) :=
 lok (body:=sub uer_ [1,1,1,0,1,0,0]) (n:=1) (l:=[(uw0_,sub uer_ [1,1,1,0,1,0,0,1,1,0,0,1,1,1,1,0,1])]) uud_ ⟨⟨by kernel_rfl,ubhl_⟩,trivial⟩
theorem ubrb_:FO 299 ubbl_ :=
 fnk (c:=uer_) (l:=[(uw1_,sub uer_ [1,1,1,0,1,0])]) uud_ Tryz.func299 ⟨⟨by kernel_rfl,ubhm_⟩,trivial⟩
def ubir_:FSpec:=⟨[.val (.int .i64),.val ZZ34],[.val (.agg ZZ22),.val (.int .i64)],ubs2_,false⟩
def u2v_:CSpec:=⟨⟨[1,11],[.val ZZ34,.val .bool]⟩,[(.normal,⟨[1],[.val ZZ34]⟩)],[1,12,13],ubia_,[],none⟩
def u2w_:CSpec:=⟨⟨[8,9,29],[.box (.val ZZ8),.box (.val (.prod (.agg ZZ29) (.agg ZZ29))),.val .bool]⟩,[(.normal,⟨[8,9],[.box (.val ZZ8),.box (.val (.prod (.agg ZZ29) (.agg ZZ29)))]⟩)],(seg 30 9),ubib_,[],none⟩
def u2x_:CSpec:=⟨⟨[6,20,21,22],[.box (.pr (.val (.int .i64)) (.own 402 ZZ9 false)),.val ZZ34,.val (.int .i64),.val (.int .i64)]⟩,[((.exit 0),⟨[6],[.box (.pr (.val (.int .i64)) (.own 402 ZZ9 false))]⟩)],([8,9]++seg 22 36),ubic_,[],none⟩
def ubxz_:Env:=mkE [(299,ubbl_)] [(0,u2v_),(4,u2w_),(2,u2x_)] [19] false
theorem uqw_:EnvOK Tryz.prog false ubxz_:=enk ⟨ubrb_,trivial⟩
def ucr_:Code:=ui_ Tryz.f254
theorem ubm1_:CutOK Tryz.prog false Tryz.f254.ntmps u2v_ (sub ucr_ [1,0,1]) :=
 brk (c:=ul8_ (sub ucr_ [1,0,1])) (x:=sub ucr_ [1,0,1,0]) (y:=sub ucr_ [1,0,1,1]) (n:=0) (lx:=[]) (ly:=[]) uqw_ trivial trivial
theorem ubm2_:CutOK Tryz.prog false Tryz.f254.ntmps u2w_ (sub ucr_ [1,1,1,1,0,1,0,0,1,1,0,0,1,1,0,1]) :=
 brk (c:=ul8_ (sub ucr_ [1,1,1,1,0,1,0,0,1,1,0,0,1,1,0,1])) (x:=sub ucr_ [1,1,1,1,0,1,0,0,1,1,0,0,1,1,0,1,0]) (y:=sub ucr_ [1,1,1,1,0,1,0,0,1,1,0,0,1,1,0,1,1]) (n:=4) (lx:=[]) (ly:=[]) uqw_ trivial trivial
theorem ubm3_:CutOK Tryz.prog false Tryz.f254.ntmps u2x_ (sub ucr_ [1,1,1,1,0,1,0]) :=
 lok (body:=sub ucr_ [1,1,1,1,0,1,0,0]) (n:=3) (l:=[(u2w_,sub ucr_ [1,1,1,1,0,1,0,0,1,1,0,0,1,1,0,1])]) uqw_ ⟨⟨by kernel_rfl,ubm2_⟩,trivial⟩
theorem ubva_:FO 254 ubir_ :=
 fnk (c:=ucr_) (l:=[(u2v_,sub ucr_ [1,0,1]),(u2x_,sub ucr_ [1,1,1,1,0,1,0])]) uqw_ Tryz.func254 ⟨⟨by kernel_rfl,ubm1_⟩,⟨by kernel_rfl,ubm3_⟩,trivial⟩
def ubfk_:FSpec:=⟨[.val (.int .i64),.val (.slice ZZ9)],[.val (.agg ZZ22),.val (.int .i64)],ubpw_,false⟩
def uy8_:CSpec:=⟨⟨[0,4,6,17,18,19],[.val (.int .i64),.box (.val ZZ22),.own 408 (.agg ZZ8) true,.val (.slice ZZ9),.val (.int .i64),.val (.int .i64)]⟩,[((.exit 0),⟨[4,6],[.box (.val ZZ22),.own 408 (.agg ZZ8) true]⟩),(.ret,⟨[4,5],[.box (.val ZZ22),.val (.int .i64)]⟩)],([5,6,8,9,10,11,12]++seg 19 46),ubd2_,[],none⟩
def uy9_:CSpec:=⟨⟨[13,67,68,69],[.own 408 (.agg ZZ8) true,.own 408 (.agg ZZ8) true,.val (.int .i64),.val (.int .i64)]⟩,[((.exit 2),⟨[13],[.own 408 (.agg ZZ8) true]⟩)],([13,15,16]++seg 69 42),ubd3_,[],none⟩
def ubvb_:Env:=mkE [(248,up5_),(249,uwz_),(250,uuc_),(251,ugr_),(252,uij_),(253,u49_),(254,ubir_)] [(0,uy8_),(5,uy9_)] [] false
theorem uw2_:EnvOK Tryz.prog false ubvb_:=enk ⟨uz6_,u7z_,u48_,ujj_,uth_,ubm0_,ubva_,trivial⟩
def ui2_:Code:=ui_ Tryz.f196
theorem ubj6_:CutOK Tryz.prog false Tryz.f196.ntmps uy8_ (sub ui2_ [1,1,0,1,0]) :=
 lok (body:=sub ui2_ [1,1,0,1,0,0]) (n:=1) (l:=[]) uw2_ trivial
theorem ubj7_:CutOK Tryz.prog false Tryz.f196.ntmps uy9_ (sub ui2_ [1,1,1,1,1,0,1,0]) :=
 lok (body:=sub ui2_ [1,1,1,1,1,0,1,0,0]) (n:=6) (l:=[]) uw2_ trivial
theorem ubt6_:FO 196 ubfk_ :=
 fnk (c:=ui2_) (l:=[(uy8_,sub ui2_ [1,1,0,1,0]),(uy9_,sub ui2_ [1,1,1,1,1,0,1,0])]) uw2_ Tryz.func196 ⟨⟨by kernel_rfl,ubj6_⟩,⟨by kernel_rfl,ubj7_⟩,trivial⟩
def u5a_:FSpec:=⟨[.val (.agg ZZ16)],[.val (.agg ZZ22),.val (.int .i64)],ubd4_,false⟩
def ubo9_:Env:=mkE [(195,ur5_),(196,ubfk_),(197,ubbk_)] [] [] false
theorem ubhn_:EnvOK Tryz.prog false ubo9_:=enk ⟨u7u_,ubt6_,ubq9_,trivial⟩
theorem ubm4_:FO 151 u5a_ :=
 fnk (c:=ui_ Tryz.f151) (l:=[]) ubhn_ Tryz.func151 trivial
def uw3_:FSpec:=⟨[.val (.agg ZZ3)],[.val (.slice (.agg ZZ22)),.val (.int .i64)],u5s_,false⟩
def uue_:CSpec:=⟨⟨[1,37],[.box (.val ZZ3),.val .bool]⟩,[(.normal,⟨[1],[.box (.val ZZ3)]⟩),(.ret,⟨[2,3],[.val (.slice (.agg ZZ22)),.val (.int .i64)]⟩)],([2,3,5,6]++seg 38 9),u6x_,[],none⟩
def uuf_:CSpec:=⟨⟨[7,52,53,54],[.own 211 (.agg ZZ22) false,.val (.slice (.agg ZZ16)),.val (.int .i64),.val (.int .i64)]⟩,[((.exit 1),⟨[7],[.own 211 (.agg ZZ22) false]⟩),(.ret,⟨[2,3],[.val (.slice (.agg ZZ22)),.val (.int .i64)]⟩)],([2,3,7,9,10,11]++seg 54 17),u6y_,[],none⟩
def ubrc_:Env:=mkE [(124,uy2_),(149,u2b_),(150,uts_),(151,u5a_)] [(4,uue_),(7,uuf_)] [] false
theorem uro_:EnvOK Tryz.prog false ubrc_:=enk ⟨ubbd_,ubeu_,u89_,ubm4_,trivial⟩
def udm_:Code:=ui_ Tryz.f112
theorem ubfl_:CutOK Tryz.prog false Tryz.f112.ntmps uue_ (sub udm_ [1,1,1,1,0,1]) :=
 brk (c:=ul8_ (sub udm_ [1,1,1,1,0,1])) (x:=sub udm_ [1,1,1,1,0,1,0]) (y:=sub udm_ [1,1,1,1,0,1,1]) (n:=4) (lx:=[]) (ly:=[]) uro_ trivial trivial
theorem ubfm_:CutOK Tryz.prog false Tryz.f112.ntmps uuf_ (sub udm_ [1,1,1,1,1,1,1,0,1,0]) :=
 lok (body:=sub udm_ [1,1,1,1,1,1,1,0,1,0,0]) (n:=8) (l:=[]) uro_ trivial
theorem u70_:FO 112 uw3_ :=
 fnk (c:=udm_) (l:=[(uue_,sub udm_ [1,1,1,1,0,1]),(uuf_,sub udm_ [1,1,1,1,1,1,1,0,1,0])]) uro_ Tryz.func112 ⟨⟨by kernel_rfl,ubfl_⟩,⟨by kernel_rfl,ubfm_⟩,trivial⟩
def ubbm_:FSpec:=⟨[.val (.agg ZZ3)],[.val (.int .i64)],ublo_,false⟩
def ubt7_:Env:=mkE [(112,uw3_)] [] [] false
theorem ubm5_:EnvOK Tryz.prog false ubt7_:=enk ⟨u70_,trivial⟩
theorem ubrd_:FO 105 ubbm_ :=
 fnk (c:=ui_ Tryz.f105) (l:=[]) ubm5_ Tryz.func105 trivial
def up6_:FSpec:=⟨[.val (.agg ZZ37)],[.val (.int .i64)],uwh_,false⟩
def uoa_:CSpec:=⟨⟨[1,29,30,31],[.box (.val ZZ37),.val (.slice (.agg ZZ3)),.val (.int .i64),.val (.int .i64)]⟩,[((.exit 1),⟨[],[]⟩),(.ret,⟨[2],[.val (.int .i64)]⟩)],([2,3,4,5]++seg 31 43),uzs_,[],none⟩
def ubj8_:Env:=mkE [(105,ubbm_)] [(3,uoa_)] [] false
theorem uv3_:EnvOK Tryz.prog false ubj8_:=enk ⟨ubrd_,trivial⟩
def ulh_:Code:=ui_ Tryz.f81
theorem u71_:CutOK Tryz.prog false Tryz.f81.ntmps uoa_ (sub ulh_ [1,1,0,1,0]) :=
 lok (body:=sub ulh_ [1,1,0,1,0,0]) (n:=4) (l:=[]) uv3_ trivial
theorem uz7_:FO 81 up6_ :=
 fnk (c:=ulh_) (l:=[(uoa_,sub ulh_ [1,1,0,1,0])]) uv3_ Tryz.func81 ⟨⟨by kernel_rfl,u71_⟩,trivial⟩
def uz8_:FSpec:=⟨[.val (.agg ZZ4)],[.val (.int .i64)],u6z_,true⟩
def ubj9_:Env:=mkE [] [] [] true
theorem ubcx_:EO ubj9_:=enk trivial
theorem ubho_:FO 82 uz8_ :=
 fnk (c:=ui_ Tryz.f82) (l:=[]) ubcx_ Tryz.func82 trivial
def ubis_:FSpec:=⟨[.val .str],[.val .bool],ubs5_,true⟩
def u2y_:CSpec:=⟨⟨[0,6,7],[.val .str,.val (.int .i64),.val (.int .i64)]⟩,[((.exit 0),⟨[],[]⟩),(.ret,⟨[2],[.val .bool]⟩)],([2,3,4]++seg 7 42),ubid_,[],none⟩
def ubx0_:Env:=mkE [] [(0,u2y_)] [] true
theorem ubbn_:EO ubx0_:=enk trivial
def u0l_:Code:=ui_ Tryz.f106
theorem ubm6_:CO Tryz.f106.ntmps u2y_ (sub u0l_ [1,0,1,0]) :=
 lok (body:=sub u0l_ [1,0,1,0,0]) (n:=1) (l:=[]) ubbn_ trivial
theorem ubvc_:FO 106 ubis_ :=
 fnk (c:=u0l_) (l:=[(u2y_,sub u0l_ [1,0,1,0])]) ubbn_ Tryz.func106 ⟨⟨by kernel_rfl,ubm6_⟩,trivial⟩
def u2z_:FSpec:=⟨[.val .str],[.val .bool],ubau_,true⟩
def up7_:CSpec:=⟨⟨[0,5,6],[.val .str,.val (.int .i64),.val (.int .i64)]⟩,[((.exit 0),⟨[],[]⟩),(.ret,⟨[2],[.val .bool]⟩)],([2,3]++seg 6 14),u1p_,[],none⟩
def ubm7_:Env:=mkE [] [(0,up7_)] [] true
theorem uyj_:EO ubm7_:=enk trivial
def um9_:Code:=ui_ Tryz.f107
theorem u9z_:CO Tryz.f107.ntmps up7_ (sub um9_ [1,0,1,0]) :=
 lok (body:=sub um9_ [1,0,1,0,0]) (n:=1) (l:=[]) uyj_ trivial
theorem ubka_:FO 107 u2z_ :=
 fnk (c:=um9_) (l:=[(up7_,sub um9_ [1,0,1,0])]) uyj_ Tryz.func107 ⟨⟨by kernel_rfl,u9z_⟩,trivial⟩
def ur8_:FSpec:=⟨[.val ZZ23],[.val (.int .i64)],uxu_,true⟩
def u90_:Env:=mkE [(106,ubis_),(107,u2z_)] [] [] true
theorem u3y_:EO u90_:=enk ⟨ubvc_,ubka_,trivial⟩
theorem u72_:FO 83 ur8_ :=
 fnk (c:=ui_ Tryz.f83) (l:=[]) u3y_ Tryz.func83 trivial
def ubfn_:FSpec:=⟨[.val (.agg ZZ4)],[.val (.int .i64)],ubpx_,false⟩
def uza_:CSpec:=⟨⟨[39,40,41],[.val (.slice ZZ23),.val (.int .i64),.val (.int .i64)]⟩,[((.exit 0),⟨[],[]⟩),(.ret,⟨[2],[.val (.int .i64)]⟩)],([2,7,8]++seg 41 10),ubd5_,[],none⟩
def ubvd_:Env:=mkE [(80,u88_),(81,up6_),(82,uz8_),(83,ur8_)] [(5,uza_)] [] false
theorem u73_:EnvOK Tryz.prog false ubvd_:=enk ⟨ubjl_,uz7_,ubho_,u72_,trivial⟩
def uxh_:Code:=ui_ Tryz.f55
theorem ubkb_:CutOK Tryz.prog false Tryz.f55.ntmps uza_ (sub uxh_ [1,1,1,1,1,1,0,1,0]) :=
 lok (body:=sub uxh_ [1,1,1,1,1,1,0,1,0,0]) (n:=6) (l:=[]) u73_ trivial
theorem ubt8_:FO 55 ubfn_ :=
 fnk (c:=uxh_) (l:=[(uza_,sub uxh_ [1,1,1,1,1,1,0,1,0])]) u73_ Tryz.func55 ⟨⟨by kernel_rfl,ubkb_⟩,trivial⟩
def ubfo_:FSpec:=⟨[.val (.int .i64),.val .str],[.val (.int .i64)],ubpy_,false⟩
def ubve_:Env:=mkE [(198,ul7_)] [] [] false
theorem ubpa_:EnvOK Tryz.prog false ubve_:=enk ⟨uqn_,trivial⟩
theorem ubt9_:FO 152 ubfo_ :=
 fnk (c:=ui_ Tryz.f152) (l:=[]) ubpa_ Tryz.func152 trivial
def uz9_:FSpec:=⟨[.val ZZ9,.val ZZ34],[.val (.int .i64)],u60_,false⟩
def ubkc_:Env:=mkE [(314,ubn_)] [] [] false
theorem ubcy_:EnvOK Tryz.prog false ubkc_:=enk ⟨ubw_,trivial⟩
theorem ubhp_:FO 262 uz9_ :=
 fnk (c:=ui_ Tryz.f262) (l:=[]) ubcy_ Tryz.func262 trivial
def u20_:FSpec:=⟨[.val (.agg ZZ22)],[.val ZZ34,.val (.int .i64)],ubav_,false⟩
def up8_:CSpec:=⟨⟨[1,4,25,26,27],[.box (.val ZZ22),.own 408 (.agg ZZ8) false,.val (.slice ZZ9),.val (.int .i64),.val (.int .i64)]⟩,[((.exit 0),⟨[4],[.own 408 (.agg ZZ8) false]⟩),(.ret,⟨[2,3],[.val ZZ34,.val (.int .i64)]⟩)],([2,3,4,6,7,8,9,10,11]++seg 27 73),u1q_,[],none⟩
def ubm8_:Env:=mkE [(248,up5_),(249,uwz_),(250,uuc_),(251,ugr_),(262,uz9_)] [(2,up8_)] [] false
theorem uyk_:EnvOK Tryz.prog false ubm8_:=enk ⟨uz6_,u7z_,u48_,ujj_,ubhp_,trivial⟩
def una_:Code:=ui_ Tryz.f199
theorem u91_:CutOK Tryz.prog false Tryz.f199.ntmps up8_ (sub una_ [1,1,1,1,0,1,0]) :=
 lok (body:=sub una_ [1,1,1,1,0,1,0,0]) (n:=3) (l:=[]) uyk_ trivial
theorem ubkd_:FO 199 u20_ :=
 fnk (c:=una_) (l:=[(up8_,sub una_ [1,1,1,1,0,1,0])]) uyk_ Tryz.func199 ⟨⟨by kernel_rfl,u91_⟩,trivial⟩
def u21_:FSpec:=⟨[.val (.agg ZZ8),.val (.ptr (.agg ZZ25))],[.val .bool],ubaw_,true⟩
def ubm9_:Env:=mkE [(251,ugr_)] [] [] true
theorem ubfp_:EO ubm9_:=enk ⟨ujj_,trivial⟩
theorem ubke_:FO 264 u21_ :=
 fnk (c:=ui_ Tryz.f264) (l:=[]) ubfp_ Tryz.func264 trivial
def uhz_:FSpec:=⟨[.val ZZ34,.hof false (.agg ZZ8) .bool],[.val (.int .i64)],ujw_,false⟩
def udy_:CSpec:=⟨⟨[0,1,7,8],[.val ZZ34,.hof false (.agg ZZ8) .bool,.val (.int .i64),.val (.int .i64)]⟩,[((.exit 0),⟨[],[]⟩),(.ret,⟨[4],[.val (.int .i64)]⟩)],([4,5]++seg 8 11),uhx_,[],none⟩
def uug_:Env:=mkE [] [(0,udy_)] [] false
theorem ug6_:EnvOK Tryz.prog false uug_:=enk trivial
def ucs_:Code:=ui_ Tryz.f263
theorem uo4_:CutOK Tryz.prog false Tryz.f263.ntmps udy_ (sub ucs_ [1,0,1,0]) :=
 lok (body:=sub ucs_ [1,0,1,0,0]) (n:=1) (l:=[]) ug6_ trivial
theorem usl_:FO 263 uhz_ :=
 fnk (c:=ucs_) (l:=[(udy_,sub ucs_ [1,0,1,0])]) ug6_ Tryz.func263 ⟨⟨by kernel_rfl,uo4_⟩,trivial⟩
def ubbo_:FSpec:=⟨[.val ZZ34,.val .str],[.val (.int .i64)],ublp_,false⟩
def ubua_:Env:=mkE [(263,uhz_),(264,u21_)] [] [] false
theorem ubna_:EnvOK Tryz.prog false ubua_:=enk ⟨usl_,ubke_,trivial⟩
theorem ubre_:FO 200 ubbo_ :=
 fnk (c:=ui_ Tryz.f200) (l:=[]) ubna_ Tryz.func200 trivial
def u5b_:FSpec:=⟨[.val (.agg ZZ22),.val .str],[.val .bool,.val (.int .i64)],ubd6_,false⟩
def ubpb_:Env:=mkE [(198,ul7_),(199,u20_),(200,ubbo_),(464,ujg_),(471,uiu_),(479,ujh_),(487,ug1_),(493,ule_)] [] [] false
theorem ubhq_:EnvOK Tryz.prog false ubpb_:=enk ⟨uqn_,ubkd_,ubre_,up1_,un5_,up2_,uld_,urm_,trivial⟩
theorem ubnb_:FO 153 u5b_ :=
 fnk (c:=ui_ Tryz.f153) (l:=[]) ubhq_ Tryz.func153 trivial
def u5c_:FSpec:=⟨[.val (.agg ZZ16),.val (.agg ZZ22),.val .str,.val .str],[.val .bool],ubd7_,false⟩
def ubpc_:Env:=mkE [(152,ubfo_),(153,u5b_)] [] [] false
theorem ubhr_:EnvOK Tryz.prog false ubpc_:=enk ⟨ubt9_,ubnb_,trivial⟩
theorem ubnc_:FO 113 u5c_ :=
 fnk (c:=ui_ Tryz.f113) (l:=[]) ubhr_ Tryz.func113 trivial
def uyl_:FSpec:=⟨[.val (.agg ZZ15),.val (.agg ZZ15)],[.val (.int .i64)],u4n_,true⟩
def ubhs_:Env:=mkE [(30,ur0_),(31,ufe_)] [] [] true
theorem u92_:EO ubhs_:=enk ⟨uxx_,ug8_,trivial⟩
theorem ubfq_:FO 115 uyl_ :=
 fnk (c:=ui_ Tryz.f115) (l:=[]) u92_ Tryz.func115 trivial
def u5d_:FSpec:=⟨[.val (.agg ZZ3),.val (.agg ZZ13),.val (.map .str ZZ18)],[.val (.slice (.agg ZZ15))],ubd8_,false⟩
def urp_:CSpec:=⟨⟨[4,7,9,10,11,30,31,32],[.box (.val ZZ13),.val (.slice (.agg ZZ22)),.own 160 (.agg ZZ15) true,.val (.int .i64),.box (.val ZZ16),.val ZZ18,.val (.int .i64),.val (.int .i64)]⟩,[((.exit 2),⟨[4,9],[.box (.val ZZ13),.own 160 (.agg ZZ15) true]⟩)],([9,13]++seg 32 26),u4o_,[],none⟩
def urq_:CSpec:=⟨⟨[2,4,7,9,20,21,22],[.val (.map .str ZZ18),.box (.val ZZ13),.val (.slice (.agg ZZ22)),.own 160 (.agg ZZ15) true,.val (.slice (.agg ZZ16)),.val (.int .i64),.val (.int .i64)]⟩,[((.exit 0),⟨[9],[.own 160 (.agg ZZ15) true]⟩)],([9,10,11,13]++seg 22 37),u4p_,[],none⟩
def ubpd_:Env:=mkE [(112,uw3_),(113,u5c_),(114,ujx_),(115,uyl_)] [(2,urp_),(0,urq_)] [] false
theorem up9_:EnvOK Tryz.prog false ubpd_:=enk ⟨u70_,ubnc_,uwl_,ubfq_,trivial⟩
def ufh_:Code:=ui_ Tryz.f85
theorem ubcz_:CutOK Tryz.prog false Tryz.f85.ntmps urp_ (sub ufh_ [1,1,1,0,1,0,0,1,1,0,0,1,1,0]) :=
 lok (body:=sub ufh_ [1,1,1,0,1,0,0,1,1,0,0,1,1,0,0]) (n:=3) (l:=[]) up9_ trivial
theorem ubc0_:CutOK Tryz.prog false Tryz.f85.ntmps urq_ (sub ufh_ [1,1,1,0,1,0]) :=
 lok (body:=sub ufh_ [1,1,1,0,1,0,0]) (n:=1) (l:=[(urp_,sub ufh_ [1,1,1,0,1,0,0,1,1,0,0,1,1,0])]) up9_ ⟨⟨by kernel_rfl,ubcz_⟩,trivial⟩
theorem ubnd_:FO 85 u5d_ :=
 fnk (c:=ufh_) (l:=[(urq_,sub ufh_ [1,1,1,0,1,0])]) up9_ Tryz.func85 ⟨⟨by kernel_rfl,ubc0_⟩,trivial⟩
def ubbp_:FSpec:=⟨[.val (.agg ZZ37),.val (.agg ZZ13)],[.val ZZ35,.val (.int .i64)],ubls_,false⟩
def uw4_:CSpec:=⟨⟨[8,30,31,32],[.og 3 .str (.int .i64),.val (.slice ZZ2),.val (.int .i64),.val (.int .i64)]⟩,[((.exit 0),⟨[8],[.og 3 .str (.int .i64)]⟩)],([9,10,11,12]++seg 32 20),ubax_,[],none⟩
def uw5_:CSpec:=⟨⟨[3,13,15,64,65,66],[.box (.val ZZ13),.own 126 (.agg ZZ6) false,.box (.val ZZ3),.val (.slice (.agg ZZ15)),.val (.int .i64),.val (.int .i64)]⟩,[((.exit 4),⟨[3,13],[.box (.val ZZ13),.own 126 (.agg ZZ6) false]⟩),(.ret,⟨[4,5],[.val ZZ35,.val (.int .i64)]⟩)],([4,5,13,17]++seg 66 23),ubay_,[],none⟩
def uw6_:CSpec:=⟨⟨[3,8,13,53,54,55],[.box (.val ZZ13),.val (.map .str ZZ18),.own 126 (.agg ZZ6) false,.val (.slice (.agg ZZ3)),.val (.int .i64),.val (.int .i64)]⟩,[((.exit 2),⟨[13],[.own 126 (.agg ZZ6) false]⟩),(.ret,⟨[4,5],[.val ZZ35,.val (.int .i64)]⟩)],([4,5,13,15,17]++seg 55 35),ubaz_,[],none⟩
def ubub_:Env:=mkE [(80,u88_),(81,up6_),(84,ubos_),(85,u5d_)] [(2,uw4_),(7,uw5_),(4,uw6_)] [28,47] false
theorem unb_:EnvOK Tryz.prog false ubub_:=enk ⟨ubjl_,uz7_,ubv9_,ubnd_,trivial⟩
def udj_:Code:=ui_ Tryz.f56
theorem ubht_:CutOK Tryz.prog false Tryz.f56.ntmps uw4_ (sub udj_ [1,1,1,1,0,1,0]) :=
 lok (body:=sub udj_ [1,1,1,1,0,1,0,0]) (n:=3) (l:=[]) unb_ trivial
theorem ubhu_:CutOK Tryz.prog false Tryz.f56.ntmps uw5_ (sub udj_ [1,1,1,1,1,1,0,1,0,0,1,1,0,0,1,1,1,0]) :=
 lok (body:=sub udj_ [1,1,1,1,1,1,0,1,0,0,1,1,0,0,1,1,1,0,0]) (n:=8) (l:=[]) unb_ trivial
theorem ubhv_:CutOK Tryz.prog false Tryz.f56.ntmps uw6_ (sub udj_ [1,1,1,1,1,1,0,1,0]) :=
 lok (body:=sub udj_ [1,1,1,1,1,1,0,1,0,0]) (n:=5) (l:=[(uw5_,sub udj_ [1,1,1,1,1,1,0,1,0,0,1,1,0,0,1,1,1,0])]) unb_ ⟨⟨by kernel_rfl,ubhu_⟩,trivial⟩
theorem ubrf_:FO 56 ubbp_ :=
 fnk (c:=udj_) (l:=[(uw4_,sub udj_ [1,1,1,1,0,1,0]),(uw6_,sub udj_ [1,1,1,1,1,1,0,1,0])]) unb_ Tryz.func56 ⟨⟨by kernel_rfl,ubht_⟩,⟨by kernel_rfl,ubhv_⟩,trivial⟩
def u74_:FSpec:=⟨[.val (.agg ZZ4)],[.fz (.ptr ZZ1)],ubie_,true⟩
def uuh_:CSpec:=⟨⟨[3,23,24,25],[.box (.pr (.val (.agg ZZ4)) (.pr (.omap .str (.agg ZZ3)) (.pr (.omap .str ZZ2) (.pr (.omap .str .bool) (.omap (.agg ZZ6) .bool))))),.val (.slice (.agg ZZ3)),.val (.int .i64),.val (.int .i64)]⟩,[((.exit 0),⟨[3],[.box (.pr (.val (.agg ZZ4)) (.pr (.omap .str (.agg ZZ3)) (.pr (.omap .str ZZ2) (.pr (.omap .str .bool) (.omap (.agg ZZ6) .bool)))))]⟩)],([5]++seg 25 12),u61_,[],none⟩
def uui_:CSpec:=⟨⟨[3,39,40,41],[.box (.pr (.val (.agg ZZ4)) (.pr (.omap .str (.agg ZZ3)) (.pr (.omap .str ZZ2) (.pr (.omap .str .bool) (.omap (.agg ZZ6) .bool))))),.val (.slice ZZ2),.val (.int .i64),.val (.int .i64)]⟩,[((.exit 2),⟨[3],[.box (.pr (.val (.agg ZZ4)) (.pr (.omap .str (.agg ZZ3)) (.pr (.omap .str ZZ2) (.pr (.omap .str .bool) (.omap (.agg ZZ6) .bool)))))]⟩)],([7]++seg 41 12),u62_,[],none⟩
def uuj_:CSpec:=⟨⟨[1,3,55,56,57],[.box (.val ZZ4),.box (.pr (.val (.agg ZZ4)) (.pr (.omap .str (.agg ZZ3)) (.pr (.omap .str ZZ2) (.pr (.omap .str .bool) (.omap (.agg ZZ6) .bool))))),.val ZZ35,.val (.int .i64),.val (.int .i64)]⟩,[((.exit 4),⟨[1,3],[.box (.val ZZ4),.box (.pr (.val (.agg ZZ4)) (.pr (.omap .str (.agg ZZ3)) (.pr (.omap .str ZZ2) (.pr (.omap .str .bool) (.omap (.agg ZZ6) .bool)))))]⟩)],([9]++seg 57 19),u63_,[],none⟩
def ubrg_:Env:=mkE [] [(0,uuh_),(2,uui_),(4,uuj_)] [19] true
theorem uli_:EO ubrg_:=enk trivial
def uc4_:Code:=ui_ Tryz.f57
theorem ubfr_:CO Tryz.f57.ntmps uuh_ (sub uc4_ [1,1,0,1,0]) :=
 lok (body:=sub uc4_ [1,1,0,1,0,0]) (n:=1) (l:=[]) uli_ trivial
theorem ubfs_:CO Tryz.f57.ntmps uui_ (sub uc4_ [1,1,1,0,1,0]) :=
 lok (body:=sub uc4_ [1,1,1,0,1,0,0]) (n:=3) (l:=[]) uli_ trivial
theorem ubft_:CO Tryz.f57.ntmps uuj_ (sub uc4_ [1,1,1,1,0,1,0]) :=
 lok (body:=sub uc4_ [1,1,1,1,0,1,0,0]) (n:=5) (l:=[]) uli_ trivial
theorem ubpe_:FO 57 u74_ :=
 fnk (c:=uc4_) (l:=[(uuh_,sub uc4_ [1,1,0,1,0]),(uui_,sub uc4_ [1,1,1,0,1,0]),(uuj_,sub uc4_ [1,1,1,1,0,1,0])]) uli_ Tryz.func57 ⟨⟨by kernel_rfl,ubfr_⟩,⟨by kernel_rfl,ubfs_⟩,⟨by kernel_rfl,ubft_⟩,trivial⟩
def u0a_:FSpec:=⟨[.dp [3] (.int .i64)],[.dp [3] (.int .i64)],uwi_,true⟩
def uob_:CSpec:=⟨⟨[0,3],[.dp [3] (.int .i64),.val (.int .i64)]⟩,[((.exit 0),⟨[0],[.dp [3] (.int .i64)]⟩)],([2,3,4,5]++seg 10 50),uzt_,[],none⟩
def ubkf_:Env:=mkE [] [(1,uob_)] [] true
theorem uv4_:EO ubkf_:=enk trivial
def ulj_:Code:=ui_ Tryz.f222
theorem u75_:CO Tryz.f222.ntmps uob_ (sub ulj_ [1,1,0,1,0]) :=
 lok (body:=sub ulj_ [1,1,0,1,0,0]) (n:=2) (l:=[]) uv4_ trivial
theorem ubhw_:FO 222 u0a_ :=
 fnk (c:=ulj_) (l:=[(uob_,sub ulj_ [1,1,0,1,0])]) uv4_ Tryz.func222 ⟨⟨by kernel_rfl,u75_⟩,trivial⟩
def ubne_:FSpec:=⟨[.val (.agg ZZ13),.val (.int .i64)],[.val (.agg ZZ21)],ubv2_,true⟩
def u6c_:CSpec:=⟨⟨[5,17,18,19],[.omap .str (.int .i64),.val (.slice ZZ2),.val (.int .i64),.val (.int .i64)]⟩,[((.exit 0),⟨[5],[.omap .str (.int .i64)]⟩)],([6,7]++seg 19 10),ublt_,[],none⟩
def u6d_:CSpec:=⟨⟨[1,5,9,43,44,45],[.val (.int .i64),.omap .str (.int .i64),.box (.pr (.val (.agg ZZ13)) (.pr (.val (.int .i64)) (.pr (.dp [31,3] (.int .i64)) (.dp [31,3] (.int .i64))))),.val ZZ35,.val (.int .i64),.val (.int .i64)]⟩,[((.exit 2),⟨[9],[.box (.pr (.val (.agg ZZ13)) (.pr (.val (.int .i64)) (.pr (.dp [31,3] (.int .i64)) (.dp [31,3] (.int .i64)))))]⟩)],([11,12,13]++seg 45 41),ublu_,[],none⟩
def u6e_:CSpec:=⟨⟨[9,86,87],[.box (.pr (.val (.agg ZZ13)) (.pr (.val (.int .i64)) (.pr (.dp [31,3] (.int .i64)) (.dp [31,3] (.int .i64))))),.val (.int .i64),.val (.int .i64)]⟩,[((.exit 4),⟨[9],[.box (.pr (.val (.agg ZZ13)) (.pr (.val (.int .i64)) (.pr (.dp [31,3] (.int .i64)) (.dp [31,3] (.int .i64)))))]⟩)],([14]++seg 87 24),ublv_,[],none⟩
def ubz9_:Env:=mkE [(222,u0a_)] [(0,u6c_),(2,u6d_),(5,u6e_)] [41,71,79,100,106] true (fun d=>(lookN [(38,2),(40,2)] d).getD 0)
theorem uuk_:EO ubz9_:=enk ⟨ubhw_,trivial⟩
def ug7_:Code:=ui_ Tryz.f214
theorem ubpf_:CO Tryz.f214.ntmps u6c_ (sub ug7_ [1,1,0,1,0]) :=
 lok (body:=sub ug7_ [1,1,0,1,0,0]) (n:=1) (l:=[]) uuk_ trivial
theorem ubpg_:CO Tryz.f214.ntmps u6d_ (sub ug7_ [1,1,1,1,1,0,1,0]) :=
 lok (body:=sub ug7_ [1,1,1,1,1,0,1,0,0]) (n:=3) (l:=[]) uuk_ trivial
theorem ubph_:CO Tryz.f214.ntmps u6e_ (sub ug7_ [1,1,1,1,1,1,0,1,0]) :=
 lok (body:=sub ug7_ [1,1,1,1,1,1,0,1,0,0]) (n:=6) (l:=[]) uuk_ trivial
theorem ubx1_:FO 214 ubne_ :=
 fnk (c:=ug7_) (l:=[(u6c_,sub ug7_ [1,1,0,1,0]),(u6d_,sub ug7_ [1,1,1,1,1,0,1,0]),(u6e_,sub ug7_ [1,1,1,1,1,1,0,1,0])]) uuk_ Tryz.func214 ⟨⟨by kernel_rfl,ubpf_⟩,⟨by kernel_rfl,ubpg_⟩,⟨by kernel_rfl,ubph_⟩,trivial⟩
def ubwa_:FSpec:=⟨[.val (.agg ZZ13),.val (.int .i64)],[.val (.agg ZZ21),.val (.int .i64)],ub6t_,true⟩
def ub69_:Env:=mkE [(80,u88_),(214,ubne_)] [] [] true
theorem ub0a_:EO ub69_:=enk ⟨ubjl_,ubx1_,trivial⟩
theorem ub4d_:FO 161 ubwa_ :=
 fnk (c:=ui_ Tryz.f161) (l:=[]) ub0a_ Tryz.func161 trivial
def udo_:FSpec:=⟨[.val (.slice ZZ2),.val .str,.hof false (.prod ZZ2 .str) (.int .i64)],[.val (.int .i64),.val .bool],uen_,false⟩
def ubr_:CSpec:=⟨⟨[0,1,2,9,10],[.val (.slice ZZ2),.val .str,.hof false (.prod ZZ2 .str) (.int .i64),.val (.int .i64),.val (.int .i64)]⟩,[((.exit 0),⟨[9],[.val (.int .i64)]⟩)],([9,10,11]++seg 15 20),udn_,[],none⟩
def ukl_:Env:=mkE [] [(0,ubr_)] [] false
theorem ude_:EnvOK Tryz.prog false ukl_:=enk trivial
def u8_:Code:=ui_ Tryz.f215
theorem uhq_:CutOK Tryz.prog false Tryz.f215.ntmps ubr_ (sub u8_ [1,1,1,0,0]) :=
 lok (body:=sub u8_ [1,1,1,0,0,0]) (n:=1) (l:=[]) ude_ trivial
theorem ui8_:FO 215 udo_ :=
 fnk (c:=u8_) (l:=[(ubr_,sub u8_ [1,1,1,0,0])]) ude_ Tryz.func215 ⟨⟨by kernel_rfl,uhq_⟩,trivial⟩
def ubit_:FSpec:=⟨[.val ZZ2,.val .str],[.val (.int .i64)],ubs7_,true⟩
def ubx2_:Env:=mkE [(46,udc_)] [] [] true
theorem ubrh_:EO ubx2_:=enk ⟨ueu_,trivial⟩
theorem ubvf_:FO 216 ubit_ :=
 fnk (c:=ui_ Tryz.f216) (l:=[]) ubrh_ Tryz.func216 trivial
def ubuc_:FSpec:=⟨[.val (.agg ZZ13),.val .str],[.val (.int .i64),.val .bool],ub25_,false⟩
def ub4e_:Env:=mkE [(215,udo_),(216,ubit_)] [] [] false
theorem ubx3_:EnvOK Tryz.prog false ub4e_:=enk ⟨ui8_,ubvf_,trivial⟩
theorem ub1z_:FO 162 ubuc_ :=
 fnk (c:=ui_ Tryz.f162) (l:=[]) ubx3_ Tryz.func162 trivial
def ubp7_:FSpec:=⟨[.val (.agg ZZ13),.val .str,.val (.int .i64)],[.val (.agg ZZ21),.val (.int .i64),.val (.int .i64)],ubzv_,false⟩
def ub10_:Env:=mkE [(161,ubwa_),(162,ubuc_)] [] [] false
theorem ubvg_:EnvOK Tryz.prog false ub10_:=enk ⟨ub4d_,ub1z_,trivial⟩
theorem ub0b_:FO 118 ubp7_ :=
 fnk (c:=ui_ Tryz.f118) (l:=[]) ubvg_ Tryz.func118 trivial
def ubfu_:FSpec:=⟨[.val (.slice ZZ18),.val (.int .i64),.val (.int .i64)],[.val ZZ18],ubpz_,true⟩
def uzb_:CSpec:=⟨⟨[7,17,18],[.own 3 (.int .i64) true,.val (.int .i64),.val (.int .i64)]⟩,[((.exit 0),⟨[7],[.own 3 (.int .i64) true]⟩)],[8,18,19,20,21,22,23,24],ubd9_,[],none⟩
def uzc_:CSpec:=⟨⟨[2,7,9,10,45,46,47],[.val (.int .i64),.own 3 (.int .i64) true,.dp [3] (.int .i64),.val (.int .i64),.val ZZ18,.val (.int .i64),.val (.int .i64)]⟩,[((.exit 4),⟨[7,9],[.own 3 (.int .i64) true,.dp [3] (.int .i64)]⟩)],([9,12]++seg 47 27),ubea_,[],none⟩
def uzd_:CSpec:=⟨⟨[0,2,7,9],[.val (.slice ZZ18),.val (.int .i64),.own 3 (.int .i64) true,.dp [3] (.int .i64)]⟩,[((.exit 2),⟨[7],[.own 3 (.int .i64) true]⟩)],([9,10,12]++seg 34 40),ubeb_,[],none⟩
def ubvh_:Env:=mkE [] [(0,uzb_),(5,uzc_),(3,uzd_)] [15,33,41] true
theorem uo5_:EO ubvh_:=enk trivial
def uei_:Code:=ui_ Tryz.f163
theorem ubkg_:CO Tryz.f163.ntmps uzb_ (sub uei_ [1,1,0,1,0]) :=
 lok (body:=sub uei_ [1,1,0,1,0,0]) (n:=1) (l:=[]) uo5_ trivial
theorem ubkh_:CO Tryz.f163.ntmps uzc_ (sub uei_ [1,1,1,1,1,1,0,0,0,1,0,1,1,1,0]) :=
 lok (body:=sub uei_ [1,1,1,1,1,1,0,0,0,1,0,1,1,1,0,0]) (n:=6) (l:=[]) uo5_ trivial
theorem ubki_:CO Tryz.f163.ntmps uzd_ (sub uei_ [1,1,1,1,1,1,0,0]) :=
 lok (body:=sub uei_ [1,1,1,1,1,1,0,0,0]) (n:=4) (l:=[(uzc_,sub uei_ [1,1,1,1,1,1,0,0,0,1,0,1,1,1,0])]) uo5_ ⟨⟨by kernel_rfl,ubkh_⟩,trivial⟩
theorem ubud_:FO 163 ubfu_ :=
 fnk (c:=uei_) (l:=[(uzb_,sub uei_ [1,1,0,1,0]),(uzd_,sub uei_ [1,1,1,1,1,1,0,0])]) uo5_ Tryz.func163 ⟨⟨by kernel_rfl,ubkg_⟩,⟨by kernel_rfl,ubki_⟩,trivial⟩
def u22_:FSpec:=⟨[.val (.int .i64),.val (.ptr ZZ18),.val (.ptr (.int .i64))],[.val .bool],uba0_,true⟩
def ubnf_:Env:=mkE [] [] [] true
theorem ubfv_:EO ubnf_:=enk trivial
theorem ubkj_:FO 165 u22_ :=
 fnk (c:=ui_ Tryz.f165) (l:=[]) ubfv_ Tryz.func165 trivial
def uv5_:FSpec:=⟨[.val ZZ18,.hof false (.int .i64) .bool],[.val (.int .i64)],u1r_,false⟩
def ulk_:CSpec:=⟨⟨[0,1,7,8],[.val ZZ18,.hof false (.int .i64) .bool,.val (.int .i64),.val (.int .i64)]⟩,[((.exit 0),⟨[],[]⟩),(.ret,⟨[4],[.val (.int .i64)]⟩)],([4,5]++seg 8 11),uvj_,[],none⟩
def ubfw_:Env:=mkE [] [(0,ulk_)] [] false
theorem ur9_:EnvOK Tryz.prog false ubfw_:=enk trivial
def uiv_:Code:=ui_ Tryz.f164
theorem u3z_:CutOK Tryz.prog false Tryz.f164.ntmps ulk_ (sub uiv_ [1,0,1,0]) :=
 lok (body:=sub uiv_ [1,0,1,0,0]) (n:=1) (l:=[]) ur9_ trivial
theorem ubc1_:FO 164 uv5_ :=
 fnk (c:=uiv_) (l:=[(ulk_,sub uiv_ [1,0,1,0])]) ur9_ Tryz.func164 ⟨⟨by kernel_rfl,u3z_⟩,trivial⟩
def ubbq_:FSpec:=⟨[.val (.agg ZZ21),.val (.int .i64)],[.val ZZ18],ublw_,false⟩
def uw7_:CSpec:=⟨⟨[1,2,5,6,7],[.val (.int .i64),.box (.val ZZ21),.box (.val ZZ18),.own 3 (.int .i64) false,.box (.val (.int .i64))]⟩,[((.exit 0),⟨[6],[.own 3 (.int .i64) false]⟩)],([6,7,8]++seg 24 23),uba1_,[],none⟩
def ubue_:Env:=mkE [(163,ubfu_),(164,uv5_),(165,u22_)] [(1,uw7_)] [33] false
theorem u5e_:EnvOK Tryz.prog false ubue_:=enk ⟨ubud_,ubc1_,ubkj_,trivial⟩
def uul_:Code:=ui_ Tryz.f120
theorem ubhx_:CutOK Tryz.prog false Tryz.f120.ntmps uw7_ (sub uul_ [1,1,1,1,0,1,0]) :=
 lok (body:=sub uul_ [1,1,1,1,0,1,0,0]) (n:=2) (l:=[]) u5e_ trivial
theorem ubri_:FO 120 ubbq_ :=
 fnk (c:=uul_) (l:=[(uw7_,sub uul_ [1,1,1,1,0,1,0])]) u5e_ Tryz.func120 ⟨⟨by kernel_rfl,ubhx_⟩,trivial⟩
def ubbr_:FSpec:=⟨[.val (.agg ZZ21),.val ZZ18],[.val (.slice .str)],ublx_,true⟩
def uw8_:CSpec:=⟨⟨[2,5,8,9,10],[.box (.val ZZ21),.own 9 .str false,.val ZZ18,.val (.int .i64),.val (.int .i64)]⟩,[((.exit 0),⟨[5],[.own 9 .str false]⟩)],([5,7]++seg 10 15),uba2_,[],none⟩
def ubuf_:Env:=mkE [] [(0,uw8_)] [] true
theorem u5f_:EO ubuf_:=enk trivial
def uum_:Code:=ui_ Tryz.f119
theorem ubhy_:CO Tryz.f119.ntmps uw8_ (sub uum_ [1,1,0,1,0]) :=
 lok (body:=sub uum_ [1,1,0,1,0,0]) (n:=1) (l:=[]) u5f_ trivial
theorem ubrj_:FO 119 ubbr_ :=
 fnk (c:=uum_) (l:=[(uw8_,sub uum_ [1,1,0,1,0])]) u5f_ Tryz.func119 ⟨⟨by kernel_rfl,ubhy_⟩,trivial⟩
def ubwb_:FSpec:=⟨[.val (.agg ZZ13),.val .str,.val (.int .i64)],[.val (.slice .str),.val .bool,.val (.int .i64)],ub6u_,false⟩
def ub7a_:Env:=mkE [(118,ubp7_),(119,ubbr_),(120,ubbq_)] [] [] false
theorem ub0c_:EnvOK Tryz.prog false ub7a_:=enk ⟨ub0b_,ubrj_,ubri_,trivial⟩
theorem ub4f_:FO 87 ubwb_ :=
 fnk (c:=ui_ Tryz.f87) (l:=[]) ub0c_ Tryz.func87 trivial
def uym_:FSpec:=⟨[.val (.ptr ZZ1),.val ZZ23,.val (.agg ZZ3),.val ZZ2],[.val .bool],u4q_,true⟩
def ubhz_:Env:=mkE [(90,ugg_)] [] [] true
theorem u93_:EO ubhz_:=enk ⟨ukc_,trivial⟩
theorem ubfx_:FO 121 uym_ :=
 fnk (c:=ui_ Tryz.f121) (l:=[]) u93_ Tryz.func121 trivial
def uv6_:FSpec:=⟨[.val (.ptr ZZ1),.val (.agg ZZ3),.val ZZ2],[.val (.int .i64)],u1s_,true⟩
def ull_:CSpec:=⟨⟨[0,4,5,7,15,16,17],[.val (.ptr ZZ1),.box (.val ZZ3),.box (.val ZZ36),.val (.int .i64),.val (.slice ZZ23),.val (.int .i64),.val (.int .i64)]⟩,[((.exit 0),⟨[7],[.val (.int .i64)]⟩)],([7,8,9,10]++seg 17 48),uvk_,[],none⟩
def ubfy_:Env:=mkE [(121,uym_)] [(0,ull_)] [] true
theorem usa_:EO ubfy_:=enk ⟨ubfx_,trivial⟩
def uiw_:Code:=ui_ Tryz.f88
theorem u30_:CO Tryz.f88.ntmps ull_ (sub uiw_ [1,1,0,1,0]) :=
 lok (body:=sub uiw_ [1,1,0,1,0,0]) (n:=1) (l:=[]) usa_ trivial
theorem ubc2_:FO 88 uv6_ :=
 fnk (c:=uiw_) (l:=[(ull_,sub uiw_ [1,1,0,1,0])]) usa_ Tryz.func88 ⟨⟨by kernel_rfl,u30_⟩,trivial⟩
def uic_:FSpec:=⟨[.val (.agg ZZ11)],[.val (.slice .str)],ugw_,true⟩
def u6f_:Env:=mkE [] [] [] true
theorem u0m_:EO u6f_:=enk trivial
theorem upc_:FO 89 uic_ :=
 fnk (c:=ui_ Tryz.f89) (l:=[]) u0m_ Tryz.func89 trivial
def usb_:FSpec:=⟨[.val (.ptr ZZ1),.val (.agg ZZ6)],[.val (.agg ZZ11)],uxv_,false⟩
def ui3_:CSpec:=⟨⟨[3,5,63,64,65],[.box (.val ZZ6),.box (.pr (.val (.ptr ZZ1)) (.pr (.val (.agg ZZ6)) (.pr (.val (.agg ZZ3)) (.pr (.val ZZ2) (.pr (.val (.slice .str)) (.pr (.val (.int .i64)) (.own 9 .str false))))))),.val (.slice ZZ19),.val (.int .i64),.val (.int .i64)]⟩,[((.exit 2),⟨[3,5],[.box (.val ZZ6),.box (.pr (.val (.ptr ZZ1)) (.pr (.val (.agg ZZ6)) (.pr (.val (.agg ZZ3)) (.pr (.val ZZ2) (.pr (.val (.slice .str)) (.pr (.val (.int .i64)) (.own 9 .str false)))))))]⟩)],([9]++seg 65 30),urx_,[],none⟩
def ui4_:CSpec:=⟨⟨[3,5,56,57,58],[.box (.val ZZ6),.box (.pr (.val (.ptr ZZ1)) (.pr (.val (.agg ZZ6)) (.pr (.val (.agg ZZ3)) (.pr (.val ZZ2) (.pr (.val (.slice .str)) (.pr (.val (.int .i64)) (.own 9 .str false))))))),.val (.slice ZZ28),.val (.int .i64),.val (.int .i64)]⟩,[((.exit 0),⟨[5],[.box (.pr (.val (.ptr ZZ1)) (.pr (.val (.agg ZZ6)) (.pr (.val (.agg ZZ3)) (.pr (.val ZZ2) (.pr (.val (.slice .str)) (.pr (.val (.int .i64)) (.own 9 .str false)))))))]⟩)],([7,9]++seg 58 38),ury_,[],none⟩
def u94_:Env:=mkE [(87,ubwb_),(88,uv6_),(89,uic_),(90,ugg_)] [(2,ui3_),(0,ui4_)] [26] false
theorem uid_:EnvOK Tryz.prog false u94_:=enk ⟨ub4f_,ubc2_,upc_,ukc_,trivial⟩
def ub5_:Code:=ui_ Tryz.f58
theorem u0n_:CutOK Tryz.prog false Tryz.f58.ntmps ui3_ (sub ub5_ [1,1,1,1,0,1,0,0,1,1,0,0,1,1,0]) :=
 lok (body:=sub ub5_ [1,1,1,1,0,1,0,0,1,1,0,0,1,1,0,0]) (n:=3) (l:=[]) uid_ trivial
theorem u0o_:CutOK Tryz.prog false Tryz.f58.ntmps ui4_ (sub ub5_ [1,1,1,1,0,1,0]) :=
 lok (body:=sub ub5_ [1,1,1,1,0,1,0,0]) (n:=1) (l:=[(ui3_,sub ub5_ [1,1,1,1,0,1,0,0,1,1,0,0,1,1,0])]) uid_ ⟨⟨by kernel_rfl,u0n_⟩,trivial⟩
theorem u76_:FO 58 usb_ :=
 fnk (c:=ub5_) (l:=[(ui4_,sub ub5_ [1,1,1,1,0,1,0])]) uid_ Tryz.func58 ⟨⟨by kernel_rfl,u0o_⟩,trivial⟩
def u23_:FSpec:=⟨[.val (.agg ZZ11)],[.val .bool],uba3_,true⟩
def ubng_:Env:=mkE [] [] [] true
theorem ubfz_:EO ubng_:=enk trivial
theorem ubkk_:FO 167 u23_ :=
 fnk (c:=ui_ Tryz.f167) (l:=[]) ubfz_ Tryz.func167 trivial
def uoc_:FSpec:=⟨[.val (.agg ZZ11),.val (.int .i64),.val (.int .i64)],[.val .bool],utb_,true⟩
def ubh0_:Env:=mkE [] [] [] true
theorem u95_:EO ubh0_:=enk trivial
theorem uyn_:FO 169 uoc_ :=
 fnk (c:=ui_ Tryz.f169) (l:=[]) u95_ Tryz.func169 trivial
def u24_:FSpec:=⟨[.val (.agg ZZ11)],[.val .bool],uba4_,true⟩
def ubnh_:Env:=mkE [(169,uoc_)] [] [] true
theorem ubf0_:EO ubnh_:=enk ⟨uyn_,trivial⟩
theorem ubkl_:FO 168 u24_ :=
 fnk (c:=ui_ Tryz.f168) (l:=[]) ubf0_ Tryz.func168 trivial
def ukm_:FSpec:=⟨[.val (.agg ZZ11)],[.val .str],uno_,true⟩
def ui5_:CSpec:=⟨⟨[1,6,7,8],[.box (.val ZZ11),.val (.slice .str),.val (.int .i64),.val (.int .i64)]⟩,[((.exit 0),⟨[],[]⟩),(.ret,⟨[2],[.val .str]⟩)],([2,4]++seg 8 13),urz_,[],none⟩
def u96_:Env:=mkE [] [(0,ui5_)] [] true
theorem upd_:EO u96_:=enk trivial
def ug2_:Code:=ui_ Tryz.f93
theorem u0p_:CO Tryz.f93.ntmps ui5_ (sub ug2_ [1,0,1,0]) :=
 lok (body:=sub ug2_ [1,0,1,0,0]) (n:=1) (l:=[]) upd_ trivial
theorem usc_:FO 93 ukm_ :=
 fnk (c:=ug2_) (l:=[(ui5_,sub ug2_ [1,0,1,0])]) upd_ Tryz.func93 ⟨⟨by kernel_rfl,u0p_⟩,trivial⟩
def u25_:FSpec:=⟨[.val (.agg ZZ11)],[.val .bool],uba5_,true⟩
def ubni_:Env:=mkE [(93,ukm_)] [] [] true
theorem ubf1_:EO ubni_:=enk ⟨usc_,trivial⟩
theorem ubkm_:FO 170 u25_ :=
 fnk (c:=ui_ Tryz.f170) (l:=[]) ubf1_ Tryz.func170 trivial
def u26_:FSpec:=⟨[.val (.agg ZZ11)],[.val .bool],uba6_,true⟩
def ubnj_:Env:=mkE [(169,uoc_)] [] [] true
theorem ubf2_:EO ubnj_:=enk ⟨uyn_,trivial⟩
theorem ubkn_:FO 171 u26_ :=
 fnk (c:=ui_ Tryz.f171) (l:=[]) ubf2_ Tryz.func171 trivial
def upe_:FSpec:=⟨[.val (.agg ZZ11)],[.val .bool],utc_,true⟩
def u6g_:Env:=mkE [(89,uic_)] [] [] true
theorem u0q_:EO u6g_:=enk ⟨upc_,trivial⟩
theorem u31_:FO 172 upe_ :=
 fnk (c:=ui_ Tryz.f172) (l:=[]) u0q_ Tryz.func172 trivial
def ubbs_:FSpec:=⟨[],[.val (.slice (.agg (.prod (.int .i64) (.fnc (.agg ZZ11) .bool))))],ubly_,true⟩
def ubug_:Env:=mkE [(167,u23_),(168,u24_),(170,u25_),(171,u26_),(172,upe_)] [] [] true
theorem ubnk_:EO ubug_:=enk ⟨ubkk_,ubkl_,ubkm_,ubkn_,u31_,trivial⟩
theorem ubrk_:FO 123 ubbs_ :=
 fnk (c:=ui_ Tryz.f123) (l:=[]) ubnk_ Tryz.func123 trivial
def uv7_:FSpec:=⟨[.val (.agg ZZ11)],[.val (.int .i64)],u1t_,false⟩
def ulm_:CSpec:=⟨⟨[1,5,6,7],[.box (.val ZZ11),.val (.slice (.agg (.prod (.int .i64) (.fnc (.agg ZZ11) .bool)))),.val (.int .i64),.val (.int .i64)]⟩,[((.exit 0),⟨[],[]⟩),(.ret,⟨[2],[.val (.int .i64)]⟩)],([2,4]++seg 7 11),uvl_,[],none⟩
def ubf3_:Env:=mkE [(123,ubbs_)] [(0,ulm_)] [] false
theorem usd_:EnvOK Tryz.prog false ubf3_:=enk ⟨ubrk_,trivial⟩
def uix_:Code:=ui_ Tryz.f91
theorem u32_:CutOK Tryz.prog false Tryz.f91.ntmps ulm_ (sub uix_ [1,0,1,0]) :=
 lok (body:=sub uix_ [1,0,1,0,0]) (n:=1) (l:=[]) usd_ trivial
theorem ubc3_:FO 91 uv7_ :=
 fnk (c:=uix_) (l:=[(ulm_,sub uix_ [1,0,1,0])]) usd_ Tryz.func91 ⟨⟨by kernel_rfl,u32_⟩,trivial⟩
def uv8_:FSpec:=⟨[.val (.agg ZZ11)],[.val (.int .i64)],u1u_,true⟩
def ubf4_:Env:=mkE [(124,uy2_)] [] [] true
theorem u77_:EO ubf4_:=enk ⟨ubbd_,trivial⟩
theorem ubc4_:FO 92 uv8_ :=
 fnk (c:=ui_ Tryz.f92) (l:=[]) u77_ Tryz.func92 trivial
def use_:FSpec:=⟨[.val (.agg ZZ11)],[.val ZZ5],uxw_,false⟩
def u97_:Env:=mkE [(91,uv7_),(92,uv8_),(93,ukm_)] [] [] false
theorem u33_:EnvOK Tryz.prog false u97_:=enk ⟨ubc3_,ubc4_,usc_,trivial⟩
theorem u78_:FO 59 use_ :=
 fnk (c:=ui_ Tryz.f59) (l:=[]) u33_ Tryz.func59 trivial
def ubf5_:FSpec:=⟨[.val (.agg ZZ4)],[.val (.ptr ZZ1),.val (.slice ZZ5),.val (.int .i64)],ubp0_,false⟩
def uze_:CSpec:=⟨⟨[8,9,30,31,32],[.val (.ptr ZZ1),.own 26 ZZ5 false,.val ZZ35,.val (.int .i64),.val (.int .i64)]⟩,[((.exit 0),⟨[9],[.own 26 ZZ5 false]⟩)],([9,11]++seg 32 12),ubec_,[],none⟩
def ubvi_:Env:=mkE [(55,ubfn_),(56,ubbp_),(57,u74_),(58,usb_),(59,use_)] [(2,uze_)] [] false
theorem u79_:EnvOK Tryz.prog false ubvi_:=enk ⟨ubt8_,ubrf_,ubpe_,u76_,u78_,trivial⟩
def uxi_:Code:=ui_ Tryz.f47
theorem ubko_:CutOK Tryz.prog false Tryz.f47.ntmps uze_ (sub uxi_ [1,1,1,1,1,1,0,1,0]) :=
 lok (body:=sub uxi_ [1,1,1,1,1,1,0,1,0,0]) (n:=3) (l:=[]) u79_ trivial
theorem ubuh_:FO 47 ubf5_ :=
 fnk (c:=uxi_) (l:=[(uze_,sub uxi_ [1,1,1,1,1,1,0,1,0])]) u79_ Tryz.func47 ⟨⟨by kernel_rfl,ubko_⟩,trivial⟩
def u5g_:FSpec:=⟨[.val (.agg ZZ4)],[.val (.slice ZZ5),.val (.int .i64)],ubed_,false⟩
def ubpi_:Env:=mkE [(47,ubf5_)] [] [] false
theorem ubh1_:EnvOK Tryz.prog false ubpi_:=enk ⟨ubuh_,trivial⟩
theorem ubnl_:FO 35 u5g_ :=
 fnk (c:=ui_ Tryz.f35) (l:=[]) ubh1_ Tryz.func35 trivial
def ub0d_:FSpec:=⟨[],[.val .bool],ubzw_,false⟩
def ub9f_:Env:=mkE [(35,u5g_),(36,ubv7_)] [] [] false
theorem ub11_:EnvOK Tryz.prog false ub9f_:=enk ⟨ubnl_,ub37_,trivial⟩
theorem ub7b_:FO 15 ub0d_ :=
 fnk (c:=ui_ Tryz.f15) (l:=[]) ub11_ Tryz.func15 trivial
def ubiu_:FSpec:=⟨[.val ZZ5],[.val (.int .i64),.val (.int .i64)],u8q_,true⟩
def ubx4_:Env:=mkE [(19,umd_),(20,u5v_)] [] [] true
theorem ubrl_:EO ubx4_:=enk ⟨uvp_,ubig_,trivial⟩
theorem ubvj_:FO 5 ubiu_ :=
 fnk (c:=ui_ Tryz.f5) (l:=[]) ubrl_ Tryz.func5 trivial
def ubbt_:FSpec:=⟨[.val (.slice ZZ5)],[.val ZZ30,.val .bool],uoo_,true⟩
def uw9_:CSpec:=⟨⟨[4,8,9,10],[.omap (.agg ZZ6) (.int .i64),.val (.slice ZZ5),.val (.int .i64),.val (.int .i64)]⟩,[((.exit 0),⟨[4],[.omap (.agg ZZ6) (.int .i64)]⟩),(.ret,⟨[2,3],[.val ZZ30,.val .bool]⟩)],([2,3,6]++seg 10 15),uyv_,[],none⟩
def ubui_:Env:=mkE [(33,u1z_)] [(0,uw9_)] [] true
theorem u5h_:EO ubui_:=enk ⟨ubej_,trivial⟩
def uun_:Code:=ui_ Tryz.f37
theorem ubh2_:CO Tryz.f37.ntmps uw9_ (sub uun_ [1,1,0,1,0]) :=
 lok (body:=sub uun_ [1,1,0,1,0,0]) (n:=1) (l:=[]) u5h_ trivial
theorem ubrm_:FO 37 ubbt_ :=
 fnk (c:=uun_) (l:=[(uw9_,sub uun_ [1,1,0,1,0])]) u5h_ Tryz.func37 ⟨⟨by kernel_rfl,ubh2_⟩,trivial⟩
def u8a_:FSpec:=⟨[.val (.slice ZZ5),.val (.slice ZZ5)],[.val (.slice ZZ31),.val (.int .i64)],uxd_,true⟩
def uuo_:CSpec:=⟨⟨[21,22,23],[.own 22 (.slice ZZ5) false,.val (.int .i64),.val (.int .i64)]⟩,[((.exit 0),⟨[],[]⟩),(.ret,⟨[4,5],[.val (.slice ZZ31),.val (.int .i64)]⟩)],([4,5,7,8]++seg 23 10),uop_,[],none⟩
def ukn_:CSpec:=⟨⟨[9,13],[.val ZZ30,.own 61 (.agg ZZ6) true]⟩,[(.normal,⟨[9,13],[.val ZZ30,.own 61 (.agg ZZ6) true]⟩)],([13,14]++seg 49 10),fun _=>none,[],some ⟨(.agg ZZ6),(.int .i64),fun u o=>o.Perm (show List (((List UInt8)×(List UInt8)×Int)×Int) from u.1),fun u o=>foldO (fun kx u=>ugb_ kx.1 u) o u⟩⟩
def uko_:CSpec:=⟨⟨[11,9,13],[.val ZZ30,.val ZZ30,.own 61 (.agg ZZ6) true]⟩,[(.normal,⟨[11,9,13],[.val ZZ30,.val ZZ30,.own 61 (.agg ZZ6) true]⟩)],([13,15]++seg 59 14),fun _=>none,[],some ⟨(.agg ZZ6),(.int .i64),fun u o=>o.Perm (show List (((List UInt8)×(List UInt8)×Int)×Int) from u.1),fun u o=>foldO (fun kx u=>utd_ kx.1 u) o u⟩⟩
def uup_:CSpec:=⟨⟨[9,11,16,75,76,77],[.val ZZ30,.val ZZ30,.own 85 ZZ31 true,.own 61 (.agg ZZ6) true,.val (.int .i64),.val (.int .i64)]⟩,[((.exit 6),⟨[16],[.own 85 ZZ31 true]⟩)],([16,18]++seg 77 28),uwj_,[],none⟩
def ubrn_:Env:=mkE [(23,uky_),(32,uq5_),(37,ubbt_),(38,ulu_)] [(0,uuo_),(1000013,ukn_),(1000017,uko_),(9,uup_)] [] true
theorem E_verdict_Changes_ok:EO ubrn_:=enk ⟨uti_,u10_,ubrm_,uyw_,trivial⟩
def uo_:Code:=ui_ Tryz.f16
theorem ubf6_:CO Tryz.f16.ntmps uuo_ (sub uo_ [1,0,1,0]) :=
 lok (body:=sub uo_ [1,0,1,0,0]) (n:=1) (l:=[]) E_verdict_Changes_ok trivial
theorem u27_:CO Tryz.f16.ntmps ukn_ (sub uo_ [1,1,1,1,1,1,0]) :=
 CutOK.of_eq (ub20_ (s:=9) (d1:=49) (d2:=50) (d3:=51) (d4:=52) (d5:=53) (d6:=54) (rty:=79) (q:=13) (tm:=[]) (k:=(.agg ZZ6)) (v:=(.int .i64)) (b:=.own 61 (.agg ZZ6) true) (sh:=[]) (N:=Tryz.f16.ntmps) (n:=6) (id1:=13) (id2:=14) (id3:=15) (x:=2) (y:=3) (ops:=ubk5_ (sub uo_ [1,1,1,1,1,1,0,1,0,0,1,1,0,0])) (C:=sub uo_ [1,1,1,1,1,1,0,1,0,0,1,1,0,1]) (wrs:=([13,14]++seg 49 10)) (wrsB:=[13,14,53,54,55,56,57,58]) (mv:=((ubk5_ (sub uo_ [1,1,1,1,1,1,0,0])).getD 0 default)) (rg:=((ubk5_ (sub uo_ [1,1,1,1,1,1,0,0])).getD 1 default)) (nx:=((ubk5_ (sub uo_ [1,1,1,1,1,1,0,1,0,0,0])).getD 0 default)) (ex:=((ubk5_ (sub uo_ [1,1,1,1,1,1,0,1,0,0,0])).getD 1 default)) (o0:=((ubk5_ (sub uo_ [1,1,1,1,1,1,0,1,0,0,1,1,0,0])).getD 0 default)) (o1:=((ubk5_ (sub uo_ [1,1,1,1,1,1,0,1,0,0,1,1,0,0])).getD 1 default)) E_verdict_Changes_ok mix
  ⟨⟨by kernel_rfl,by kernel_rfl,by kernel_rfl⟩,⟨by kernel_rfl,by kernel_rfl,by kernel_rfl⟩,⟨by kernel_rfl,by kernel_rfl,by kernel_rfl⟩,⟨by kernel_rfl,by kernel_rfl,by kernel_rfl⟩,by kernel_rfl,by kernel_rfl,⟨by kernel_rfl,by kernel_rfl⟩,⟨by kernel_rfl,by kernel_rfl⟩,
    ⟨of_decide_eq_true (by kernel_rfl),of_decide_eq_true (by kernel_rfl),of_decide_eq_true (by kernel_rfl),of_decide_eq_true (by kernel_rfl)⟩,⟨by kernel_rfl,by kernel_rfl,by kernel_rfl,by kernel_rfl⟩,⟨by kernel_rfl,by kernel_rfl,by kernel_rfl,by kernel_rfl⟩,⟨by decide,by decide⟩,by kernel_rfl,by kernel_rfl⟩
  (E_verdict_Changes_ok.ty 79 _ (by kernel_rfl)) (by kernel_rfl) trivial (by kernel_rfl) (f:=ugb_) (fun kx u=>by kernel_rfl)) (by kernel_rfl)
theorem u28_:CO Tryz.f16.ntmps uko_ (sub uo_ [1,1,1,1,1,1,1,0]) :=
 CutOK.of_eq (ub20_ (s:=11) (d1:=59) (d2:=60) (d3:=61) (d4:=62) (d5:=63) (d6:=64) (rty:=79) (q:=9) (tm:=[13]) (k:=(.agg ZZ6)) (v:=(.int .i64)) (b:=.val ZZ30) (sh:=[.own 61 (.agg ZZ6) true]) (N:=Tryz.f16.ntmps) (n:=8) (id1:=17) (id2:=18) (id3:=19) (x:=4) (y:=5) (ops:=ubk5_ (sub uo_ [1,1,1,1,1,1,1,0,1,0,0,1,1,0,0])) (C:=sub uo_ [1,1,1,1,1,1,1,0,1,0,0,1,1,0,1]) (wrs:=([13,15]++seg 59 14)) (wrsB:=([13,15]++seg 63 10)) (mv:=((ubk5_ (sub uo_ [1,1,1,1,1,1,1,0,0])).getD 0 default)) (rg:=((ubk5_ (sub uo_ [1,1,1,1,1,1,1,0,0])).getD 1 default)) (nx:=((ubk5_ (sub uo_ [1,1,1,1,1,1,1,0,1,0,0,0])).getD 0 default)) (ex:=((ubk5_ (sub uo_ [1,1,1,1,1,1,1,0,1,0,0,0])).getD 1 default)) (o0:=((ubk5_ (sub uo_ [1,1,1,1,1,1,1,0,1,0,0,1,1,0,0])).getD 0 default)) (o1:=((ubk5_ (sub uo_ [1,1,1,1,1,1,1,0,1,0,0,1,1,0,0])).getD 1 default)) E_verdict_Changes_ok mix
  ⟨⟨by kernel_rfl,by kernel_rfl,by kernel_rfl⟩,⟨by kernel_rfl,by kernel_rfl,by kernel_rfl⟩,⟨by kernel_rfl,by kernel_rfl,by kernel_rfl⟩,⟨by kernel_rfl,by kernel_rfl,by kernel_rfl⟩,by kernel_rfl,by kernel_rfl,⟨by kernel_rfl,by kernel_rfl⟩,⟨by kernel_rfl,by kernel_rfl⟩,
    ⟨of_decide_eq_true (by kernel_rfl),of_decide_eq_true (by kernel_rfl),of_decide_eq_true (by kernel_rfl),of_decide_eq_true (by kernel_rfl)⟩,⟨by kernel_rfl,by kernel_rfl,by kernel_rfl,by kernel_rfl⟩,⟨by kernel_rfl,by kernel_rfl,by kernel_rfl,by kernel_rfl⟩,⟨by decide,by decide⟩,by kernel_rfl,by kernel_rfl⟩
  (E_verdict_Changes_ok.ty 79 _ (by kernel_rfl)) (by kernel_rfl) trivial (by kernel_rfl) (f:=utd_) (fun kx u=>by kernel_rfl)) (by kernel_rfl)
theorem ubf7_:CO Tryz.f16.ntmps uup_ (sub uo_ [1,1,1,1,1,1,1,1,1,1,0,1,0]) :=
 lok (body:=sub uo_ [1,1,1,1,1,1,1,1,1,1,0,1,0,0]) (n:=10) (l:=[]) E_verdict_Changes_ok trivial
theorem ubpj_:FO 16 u8a_ :=
 fnk (c:=uo_) (l:=[(uuo_,sub uo_ [1,0,1,0]),(ukn_,sub uo_ [1,1,1,1,1,1,0]),(uko_,sub uo_ [1,1,1,1,1,1,1,0]),(uup_,sub uo_ [1,1,1,1,1,1,1,1,1,1,0,1,0])]) E_verdict_Changes_ok Tryz.func16 ⟨⟨by kernel_rfl,ubf6_⟩,⟨by kernel_rfl,u27_⟩,⟨by kernel_rfl,u28_⟩,⟨by kernel_rfl,ubf7_⟩,trivial⟩
def u0r_:FSpec:=⟨[.nilS],[.own 26 ZZ5 true],u5t_,true⟩
def u29_:Env:=mkE [] [] [5] true
theorem uyo_:EO u29_:=enk trivial
theorem u0s_:FO 17 u0r_ :=
 fnk (c:=ui_ Tryz.f17) (l:=[]) uyo_ Tryz.func17 trivial
def u0t_:FSpec:=⟨[.nns ZZ5],[.own 26 ZZ5 true],uiy_,true⟩
def u3a_:Env:=mkE [] [] [5] true
theorem uyp_:EO u3a_:=enk trivial
theorem u0u_:FO 17 u0t_ :=
 fnk (c:=ui_ Tryz.f17) (l:=[]) uyp_ Tryz.func17 trivial
def upf_:FSpec:=⟨[.val (.slice ZZ5)],[.own 26 ZZ5 true],ugx_,true⟩
theorem u34_:FO 17 upf_:=ub87_ u0s_ u0u_ (by kernel_rfl) (fun _=>rfl)
def unc_:FSpec:=⟨[.io 26 ZZ5],[],ufo_,true⟩
def ugq_:CSpec:=⟨⟨[0,2,3],[.own 26 ZZ5 true,.val (.int .i64),.val (.int .i64)]⟩,[((.exit 0),⟨[0],[.own 26 ZZ5 true]⟩)],([2,3]++seg 7 21),ugy_,[],none⟩
def u3b_:Env:=mkE [] [(0,ugq_)] [] true
theorem ukv_:EO u3b_:=enk trivial
def ues_:Code:=ui_ Tryz.f18
theorem uu1_:CO Tryz.f18.ntmps ugq_ (sub ues_ [1,0]) :=
 lok (body:=sub ues_ [1,0,0]) (n:=1) (l:=[]) ukv_ trivial
theorem u0v_:FO 18 unc_ :=
 fnk (c:=ues_) (l:=[(ugq_,sub ues_ [1,0])]) ukv_ Tryz.func18 ⟨⟨by kernel_rfl,uu1_⟩,trivial⟩
def u5i_:FSpec:=⟨[.val ZZ18,.val ZZ18],[.val .bool],utf_,true⟩
def urr_:CSpec:=⟨⟨[0,1,12,13],[.val ZZ18,.val ZZ18,.val (.int .i64),.val (.int .i64)]⟩,[((.exit 0),⟨[],[]⟩),(.ret,⟨[4],[.val .bool]⟩)],([4,5]++seg 13 13),ute_,[],none⟩
def ubpk_:Env:=mkE [] [(1,urr_)] [] true
theorem u0b_:EO ubpk_:=enk trivial
def uo6_:Code:=ui_ Tryz.f14
theorem ubc5_:CO Tryz.f14.ntmps urr_ (sub uo6_ [1,1,0,1,0]) :=
 lok (body:=sub uo6_ [1,1,0,1,0,0]) (n:=2) (l:=[]) u0b_ trivial
theorem ubnm_:FO 14 u5i_ :=
 fnk (c:=uo6_) (l:=[(urr_,sub uo6_ [1,1,0,1,0])]) u0b_ Tryz.func14 ⟨⟨by kernel_rfl,ubc5_⟩,trivial⟩
def ubc6_:FSpec:=⟨[.val (.slice ZZ5)],[.val .bool],uq4_,false⟩
def uln_:CSpec:=⟨⟨[0,5,6,28,29,30],[.val (.slice ZZ5),.own 4 .bool true,.val (.int .i64),.val ZZ18,.val (.int .i64),.val (.int .i64)]⟩,[((.exit 0),⟨[],[]⟩),(.ret,⟨[2],[.val .bool]⟩)],([2,6,8,9,10]++seg 30 34),uhj_,[],none⟩
def ulo_:CSpec:=⟨⟨[0,14,96,97],[.val (.slice ZZ5),.own 3 (.int .i64) true,.val (.int .i64),.val (.int .i64)]⟩,[((.exit 2),⟨[14],[.val ZZ18]⟩)],([16]++seg 97 15),uhk_,[],none⟩
def ubf8_:Env:=mkE [(5,ubiu_),(11,ubel_),(14,u5i_),(15,ub0d_),(16,u8a_),(17,upf_),(18,unc_)] [(1,uln_),(6,ulo_)] [27] false
theorem ukp_:EnvOK Tryz.prog false ubf8_:=enk ⟨ubvj_,ubti_,ubnm_,ub7b_,ubpj_,u34_,u0v_,trivial⟩
def uc1_:Code:=ui_ Tryz.f4
theorem u35_:CutOK Tryz.prog false Tryz.f4.ntmps uln_ (sub uc1_ [1,1,1,1,1,0,1,0]) :=
 lok (body:=sub uc1_ [1,1,1,1,1,0,1,0,0]) (n:=2) (l:=[]) ukp_ trivial
theorem u36_:CutOK Tryz.prog false Tryz.f4.ntmps ulo_ (sub uc1_ [1,1,1,1,1,1,1,1,1,1,0,1,0]) :=
 lok (body:=sub uc1_ [1,1,1,1,1,1,1,1,1,1,0,1,0,0]) (n:=7) (l:=[]) ukp_ trivial
theorem L7_VerdictOrderIsOne_ok:FO 4 ubc6_ :=
 fnk (c:=uc1_) (l:=[(uln_,sub uc1_ [1,1,1,1,1,0,1,0]),(ulo_,sub uc1_ [1,1,1,1,1,1,1,1,1,1,0,1,0])]) ukp_ Tryz.func4 ⟨⟨by kernel_rfl,u35_⟩,⟨by kernel_rfl,u36_⟩,trivial⟩
end
end Go.Ev.Pv
