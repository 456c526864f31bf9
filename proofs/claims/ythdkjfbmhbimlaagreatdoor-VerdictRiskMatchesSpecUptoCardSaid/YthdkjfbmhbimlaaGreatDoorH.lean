/-
  Each of the program's functions keeps what its plain function says.
-/
import Derived.Test.YthdkjfbmhbimlaaGreatDoorD
import Derived.Test.YthdkjfbmhbimlaaGreatDoorG
import Derived.Test.YthdkjfbmhbimlaaGreatDoorProg
set_option linter.unusedVariables false
set_option linter.unusedSimpArgs false
set_option linter.unusedSectionVars false
set_option maxRecDepth 100000
namespace Go.Ev.Pv
noncomputable section
def seg:Nat→Nat→List Nat
 | _,0=>[]
 | a,n+1=>a::seg (a+1) n
abbrev ZZ12:Ty:=(.agg (.prod .str .str))
abbrev ZZ17:Ty:=(.prod .str (.prod .str (.prod .str (.prod .str (.prod (.slice ZZ12) .str)))))
abbrev ZZ33:Ty:=(.prod .str (.prod (.agg ZZ17) (.prod (.slice ZZ12) (.prod .str (.slice .str)))))
abbrev ZZ2:Ty:=(.agg ZZ33)
abbrev ZZ6:Ty:=(.prod .str (.prod .str (.int .i64)))
abbrev ZZ35:Ty:=(.slice (.agg ZZ6))
abbrev ZZ13:Ty:=(.prod .str (.prod .str (.prod .str (.prod (.slice ZZ2) ZZ35))))
abbrev ZZ16:Ty:=(.prod .str (.prod (.int .i64) (.prod (.slice (.agg (.prod (.int .i64) .str))) (.prod (.slice .str) (.slice .str)))))
abbrev ZZ3:Ty:=(.prod .str (.prod (.slice .str) (.prod .str (.prod (.int .i64) (.prod .bool (.prod .str (.slice (.agg ZZ16))))))))
abbrev ZZ18:Ty:=(.slice (.int .i64))
abbrev ZZ34:Ty:=(.prod (.int .i64) (.prod (.slice (.agg ZZ3)) ZZ18))
abbrev ZZ19:Ty:=(.agg (.prod .str (.prod .str (.prod (.slice (.agg (.prod (.int .i64) (.prod .str (.prod .str .str))))) (.slice .str)))))
abbrev ZZ28:Ty:=(.agg (.prod (.slice (.agg (.prod .str (.slice .str)))) (.prod (.slice (.agg (.prod .str (.slice ZZ12)))) (.prod (.slice ZZ19) (.slice .str)))))
abbrev ZZ15:Ty:=(.prod (.int .i64) (.int .i64))
abbrev ZZ23:Ty:=(.agg (.prod .str (.prod .str (.prod .str (.prod (.int .i64) (.prod (.int .i64) ZZ15))))))
abbrev ZZ5:Ty:=(.prod (.agg ZZ13) (.prod (.int .i64) (.prod (.agg ZZ34) (.prod (.slice ZZ28) (.prod (.int .i64) (.prod (.slice .str) (.slice ZZ23)))))))
abbrev ZZ1:Ty:=(.agg (.prod (.agg ZZ5) (.prod (.map .str (.agg ZZ3)) (.prod (.map .str ZZ2) (.prod (.map .str .bool) (.map (.agg ZZ6) .bool))))))
abbrev ZZ4:Ty:=(.agg (.prod .str (.prod .str (.prod (.int .i64) (.prod (.int .i64) (.prod (.int .i64) (.prod (.slice .str) (.prod .str (.prod (.slice (.agg (.prod .str (.prod (.slice (.agg (.prod (.agg (.prod .str (.int .i64))) .str))) (.slice ZZ12))))) (.int .i64))))))))))
abbrev ZZ26:Ty:=(.prod (.int .i64) (.prod .str (.prod .str .bool)))
abbrev ZZ10:Ty:=(.prod (.int .i64) (.prod ZZ18 (.prod (.int .i64) (.prod (.int .i64) (.prod (.int .i64) (.prod (.int .i64) (.slice .str)))))))
abbrev ZZ20:Ty:=(.agg (.prod .bool (.prod .str (.int .i64))))
abbrev ZZ7:Ty:=(.ialt 465 (.agg (.prod (.arr 3 (.int .i64)) (.slice .str))) (.ialt 471 (.agg ZZ26) (.ialt 475 (.agg ZZ10) (.ialt 485 (.agg (.slice ZZ20)) (.ialt 490 (.agg (.int .i64)) .inil)))))
abbrev ZZ25:Ty:=(.prod (.int .i64) (.prod .str (.prod .bool .str)))
abbrev ZZ8:Ty:=(.prod (.agg ZZ25) (.agg ZZ25))
abbrev ZZ29:Ty:=(.prod .bool (.prod .bool .str))
abbrev ZZ9:Ty:=(.agg (.prod (.agg ZZ29) (.agg ZZ29)))
abbrev ZZ11:Ty:=(.prod (.ptr ZZ1) (.prod (.agg ZZ6) (.prod (.agg ZZ3) (.prod ZZ2 (.prod (.slice .str) (.prod (.int .i64) (.slice .str)))))))
abbrev ZZ14:Ty:=(.agg (.prod (.int .i64) ZZ6))
abbrev ZZ21:Ty:=(.prod (.agg ZZ13) (.prod (.int .i64) (.prod (.slice ZZ18) (.slice ZZ18))))
abbrev ZZ22:Ty:=(.prod (.int .i64) (.slice ZZ9))
abbrev ZZ24:Ty:=(.prod .str ZZ15)
abbrev ZZ27:Ty:=(.agg (.prod .str (.prod (.int .i64) (.prod .bool (.prod .bool (.int .i64))))))
abbrev ZZ30:Ty:=(.prod ZZ12 ZZ12)
abbrev ZZ31:Ty:=(.prod ZZ14 ZZ14)
abbrev ZZ32:Ty:=(.slice (.agg ZZ8))
abbrev ZZ36:Ty:=(.prod .bool (.map .str .bool))
open Go.Proofs
def tys:List (Nat×Ty):=[(3,(.int .i64)),(4,.bool),(5,(.int .u8)),(9,.str),(22,(.slice ZZ4)),(23,(.slice .str)),(26,ZZ4),(31,ZZ18),(50,(.map .str (.int .i64))),(61,(.agg ZZ6)),(66,(.slice ZZ2)),(67,ZZ35),(69,(.agg ZZ13)),(70,(.slice (.agg ZZ3))),(72,(.agg ZZ34)),(73,(.slice ZZ28)),(74,(.slice ZZ23)),(76,(.agg ZZ5)),(86,(.arr 7 (.int .i64))),(94,(.ptr ZZ1)),(97,(.slice ZZ12)),(99,(.agg ZZ17)),(100,(.slice ZZ12)),(102,ZZ2),(104,(.agg ZZ6)),(106,(.agg (.prod (.int .i64) .str))),(107,(.slice (.agg (.prod (.int .i64) .str)))),(109,(.agg ZZ16)),(110,(.slice (.agg ZZ16))),(112,(.agg ZZ3)),(115,(.int .u64)),(121,ZZ35),(126,(.agg ZZ6)),(128,(.agg ZZ11)),(152,ZZ23),(154,(.map .str ZZ18)),(157,(.slice (.agg ZZ15))),(160,(.agg ZZ15)),(161,(.map .str (.agg ZZ3))),(162,(.map .str ZZ2)),(163,(.map .str .bool)),(164,(.map (.agg ZZ6) .bool)),(166,ZZ1),(171,(.slice ZZ19)),(173,ZZ28),(179,ZZ19),(199,(.agg ZZ36)),(205,(.slice (.agg ZZ22))),(209,(.slice ZZ9)),(211,(.agg ZZ22)),(223,(.slice ZZ18)),(225,(.agg ZZ21)),(232,(.slice (.agg (.prod (.int .i64) (.fnc (.agg ZZ11) .bool))))),(234,(.fnc (.agg ZZ11) .bool)),(236,(.agg (.prod (.int .i64) (.fnc (.agg ZZ11) .bool)))),(269,ZZ27),(278,ZZ12),(298,(.map (.int .u8) (.int .i64))),(299,(.arr 6 (.map (.int .u8) (.int .i64)))),(301,(.arr 6 (.int .i64))),(319,(.agg ZZ24)),(322,(.arr 5 ZZ27)),(327,(.slice (.int .u8))),(329,(.agg (.prod .self (.slice (.int .u8))))),(340,ZZ7),(343,ZZ32),(383,ZZ12),(400,(.agg ZZ29)),(402,ZZ9),(405,(.agg ZZ25)),(408,(.agg ZZ8)),(413,(.slice ZZ14)),(416,ZZ14),(459,(.arr 4 (.int .i64))),(463,(.arr 3 (.int .i64))),(465,(.agg (.prod (.arr 3 (.int .i64)) (.slice .str)))),(471,(.agg ZZ26)),(475,(.agg ZZ10)),(483,(.slice ZZ20)),(485,(.agg (.slice ZZ20))),(487,ZZ20),(490,(.agg (.int .i64)))]
theorem ucvh_:tysOK Tryz.prog tys=true:=by kernel_rfl
def els:List (Nat×Nat):=[(22,26),(23,9),(31,3),(66,102),(67,104),(70,112),(97,278),(107,106),(110,109),(121,126),(154,3),(157,160),(205,211),(209,402),(223,31),(232,236),(327,5),(343,408),(413,416),(483,487)]
theorem ucvi_:elsOK Tryz.prog els=true:=by kernel_rfl
def eqs:List Nat:=[104,152]
theorem ucvj_:eqsOK Tryz.prog tys eqs=true:=by kernel_rfl
def kys:List (Nat×Nat):=[(164,104)]
theorem ucvk_:kysOK Tryz.prog kys=true:=by kernel_rfl
theorem mix:Tryz.prog.follows .mixedOrders=true:=by kernel_rfl
def mname (t i:Nat):String:=(((Tryz.prog.types[t]?).bind fun x=>x.methods[i]?).map fun m=>m.name).getD default
def ms:List (String×Nat×Nat):=[(mname 465 0,465,463),(mname 465 1,465,464),(mname 471 0,471,470),(mname 471 1,471,471),(mname 475 0,475,478),(mname 475 1,475,479),(mname 485 0,485,486),(mname 485 1,485,487),(mname 490 0,490,492),(mname 490 1,490,493)]
theorem ms_ok:MsOK Tryz.prog ms:=⟨(fun v w=>by kernel_rfl),(fun v w=>by kernel_rfl),(fun v w=>by kernel_rfl),(fun v w=>by kernel_rfl),(fun v w=>by kernel_rfl),(fun v w=>by kernel_rfl),(fun v w=>by kernel_rfl),(fun v w=>by kernel_rfl),(fun v w=>by kernel_rfl),(fun v w=>by kernel_rfl),trivial⟩
def mkE (fs:List (Nat×FSpec)) (cs:List (Nat×CSpec)) (wr:List Nat) (dr:Bool) (dp:Nat→Nat:=fun _=>0):Env:=⟨lookN tys,lookN fs,lookN cs,(fun d=>hasN d wr),elOf Tryz.prog els,lookM ms,(fun t=>hasN t eqs),dr,dp,kyOf Tryz.prog kys⟩
theorem enk {dr:Bool} {fs:List (Nat×FSpec)} {cs:List (Nat×CSpec)} {wr:List Nat} {dp:Nat→Nat} (h3:FsOK Tryz.prog fs) (h6:(!dr||fs.all fun p=>p.2.dr)=true:=by kernel_rfl):EnvOK Tryz.prog dr (mkE fs cs wr dr dp):=ucsg_ rfl ucvh_ ucvi_ h3 ms_ok ucvj_ ucvk_ h6
theorem fnk {dr:Bool} {E:Env} {f:FuncId} {fn:Func} {c:Code} {ps rs:List Sh} {F:TupR ps→Option (TupR (rs++ps.filter isBox))} {l:List (CSpec×Code)} (hE:EnvOK Tryz.prog dr E)
 (hf:Tryz.prog.funcs[f]? = some fn) (hc:AllCuts Tryz.prog dr fn.ntmps (okFun fn.ntmps ps) l) (hnm:(fn.name == "runtime.NumGoroutine")=false:=by kernel_rfl) (hb:fn.body=some c:=by kernel_rfl) (hd:dstOK (okFun fn.ntmps ps) c=true:=by kernel_rfl) (hn:Nat.ble ps.length fn.ntmps=true:=by kernel_rfl) (hl:Nat.beq fn.results.toList.length rs.length=true:=by kernel_rfl)
 (hcs:ubbi_ E c 0=l:=by kernel_rfl) (hF:∀ v,evFun E fn ps rs v=F v:=by intro v; kernel_rfl):uf_ Tryz.prog f∧FunOK Tryz.prog f ⟨ps,rs,F,dr⟩:=fn_ok hE mix hf hnm hb hd hn hl hcs hc hF
theorem lok {dr:Bool} {E:Env} {N n:Nat} {body:Code} {al:List (Nat×Nat)} {inn:Kp} {outs:List (Ex×Kp)} {wrs:List Nat} {r:(TupR inn.sh→Option (OutT outs))→TupR inn.sh→Option (OutT outs)} {l:List (CSpec×Code)} (hE:EnvOK Tryz.prog dr E)
 (hc:AllCuts Tryz.prog dr N (okCut N wrs) l) (hd:dstOK (okCut N wrs) body=true:=by kernel_rfl) (hcs:ubbi_ E body n=l:=by kernel_rfl) (hF:∀ next v,uckw_ E body n al inn outs next v=r next v:=by intro next v; kernel_rfl) :
 CutOK Tryz.prog dr N ⟨inn,outs,wrs,loopN r fuel,al⟩ (.loop body):=uct7_ hE mix hd hcs hc hF fuel
theorem brk {dr:Bool} {E:Env} {N n:Nat} {c:Operand} {x y:Code} {al:List (Nat×Nat)} {inn:Kp} {outs:List (Ex×Kp)} {wrs:List Nat} {F:TupR inn.sh→Option (OutT outs)} {lx ly:List (CSpec×Code)} (hE:EnvOK Tryz.prog dr E)
 (hx:AllCuts Tryz.prog dr N (okCut N wrs) lx) (hy:AllCuts Tryz.prog dr N (okCut N wrs) ly) (hd:dstOK (okCut N wrs) (.cond c x y)=true:=by kernel_rfl) (hcx:ubbi_ E x (n+1)=lx:=by kernel_rfl) (hcy:ubbi_ E y (n+1+nodes x)=ly:=by kernel_rfl)
 (hF:∀ v,ucob_ E c x y n al inn outs v=F v:=by intro v; kernel_rfl):CutOK Tryz.prog dr N ⟨inn,outs,wrs,F,al⟩ (.cond c x y):=ucpd_ hE mix hd hcx hcy hx hy hF
def umi_:FSpec:=⟨[.val ZZ4],[.val (.int .i64)],uk2_,true⟩
def uws_:List (Nat×FSpec):=[]
theorem u99_:FsOK Tryz.prog uws_:=trivial
def ublo_:Env:=mkE uws_ [] [] true
theorem ubb4_:EnvOK Tryz.prog true ublo_:=enk u99_
def ublp_:Code:=uj_ Tryz.f19
theorem uwt_:uf_ Tryz.prog 19∧FunOK Tryz.prog 19 umi_ :=
 fnk (c:=ublp_) (l:=[]) ubb4_ Tryz.func19 trivial
def ubg8_:FSpec:=⟨[],[.val (.arr 7 (.int .i64))],ubvq_,true⟩
def ubg9_:List (Nat×FSpec):=[]
theorem ubst_:FsOK Tryz.prog ubg9_:=trivial
def ub57_:Env:=mkE ubg9_ [] [] true
theorem ubwk_:EnvOK Tryz.prog true ub57_:=enk ubst_
def ub58_:Code:=uj_ Tryz.f39
theorem ub24_:uf_ Tryz.prog 39∧FunOK Tryz.prog 39 ubg8_ :=
 fnk (c:=ub58_) (l:=[]) ubwk_ Tryz.func39 trivial
def uq0_:FSpec:=⟨[.val ZZ4],[.val (.int .i64)],unt_,true⟩
def ubrm_:List (Nat×FSpec):=[(39,ubg8_)]
theorem ubzu_:FsOK Tryz.prog ubrm_:=⟨ub24_,trivial⟩
def uccc_:Env:=mkE ubrm_ [] [] true
theorem ub25_:EnvOK Tryz.prog true uccc_:=enk ubzu_
def uccd_:Code:=uj_ Tryz.f20
theorem uyw_:uf_ Tryz.prog 20∧FunOK Tryz.prog 20 uq0_ :=
 fnk (c:=uccd_) (l:=[]) ub25_ Tryz.func20 trivial
def ubrn_:FSpec:=⟨[.val ZZ4],[.val (.int .i64),.val (.int .i64)],u3t_,true⟩
def ubro_:List (Nat×FSpec):=[(19,umi_),(20,uq0_)]
theorem ubzv_:FsOK Tryz.prog ubro_:=⟨uwt_,uyw_,trivial⟩
def ucce_:Env:=mkE ubro_ [] [] true
theorem ub26_:EnvOK Tryz.prog true ucce_:=enk ubzv_
def uccf_:Code:=uj_ Tryz.f5
theorem ub8e_:uf_ Tryz.prog 5∧FunOK Tryz.prog 5 ubrn_ :=
 fnk (c:=uccf_) (l:=[]) ub26_ Tryz.func5 trivial
def ub2b_:FSpec:=⟨[.val (.int .i64),.val (.int .i64),.val (.int .i64)],[.val .bool],ubki_,true⟩
def ub2c_:List (Nat×FSpec):=[]
theorem ub59_:FsOK Tryz.prog ub2c_:=trivial
def ucgz_:Env:=mkE ub2c_ [] [] true
theorem ub8f_:EnvOK Tryz.prog true ucgz_:=enk ub59_
def ucg0_:Code:=uj_ Tryz.f40
theorem uce1_:uf_ Tryz.prog 40∧FunOK Tryz.prog 40 ub2b_ :=
 fnk (c:=ucg0_) (l:=[]) ub8f_ Tryz.func40 trivial
def ux3_:FSpec:=⟨[.val ZZ4],[.val (.int .i64)],ug0_,true⟩
def ubb5_:List (Nat×FSpec):=[(40,ub2b_)]
theorem ubpb_:FsOK Tryz.prog ubb5_:=⟨uce1_,trivial⟩
def ub27_:Env:=mkE ubb5_ [] [] true
theorem ubsu_:EnvOK Tryz.prog true ub27_:=enk ubpb_
def ub28_:Code:=uj_ Tryz.f21
theorem ubb6_:uf_ Tryz.prog 21∧FunOK Tryz.prog 21 ux3_ :=
 fnk (c:=ub28_) (l:=[]) ubsu_ Tryz.func21 trivial
def ublq_:FSpec:=⟨[.val ZZ4],[.val (.int .i64)],ubkj_,true⟩
def uce2_:List (Nat×FSpec):=[]
theorem uce3_:FsOK Tryz.prog uce2_:=trivial
def ucpn_:Env:=mkE uce2_ [] [] true
theorem ucg1_:EnvOK Tryz.prog true ucpn_:=enk uce3_
def ucpo_:Code:=uj_ Tryz.f22
theorem ubwl_:uf_ Tryz.prog 22∧FunOK Tryz.prog 22 ublq_ :=
 fnk (c:=ucpo_) (l:=[]) ucg1_ Tryz.func22 trivial
def uce4_:FSpec:=⟨[.val ZZ4],[.val (.int .i64),.val (.int .i64)],ucmp_,true⟩
def uce5_:List (Nat×FSpec):=[(21,ux3_),(22,ublq_)]
theorem uce6_:FsOK Tryz.prog uce5_:=⟨ubb6_,ubwl_,trivial⟩
def ucpp_:Env:=mkE uce5_ [] [] true
theorem ucg2_:EnvOK Tryz.prog true ucpp_:=enk uce6_
def ucpq_:Code:=uj_ Tryz.f6
theorem ucm5_:uf_ Tryz.prog 6∧FunOK Tryz.prog 6 uce4_ :=
 fnk (c:=ucpq_) (l:=[]) ucg2_ Tryz.func6 trivial
def ugv_:FSpec:=⟨[.val (.slice ZZ4)],[.val (.int .i64)],ueq_,true⟩
def uue_:List (Nat×FSpec):=[(19,umi_)]
theorem u6w_:FsOK Tryz.prog uue_:=⟨uwt_,trivial⟩
def uj4_:CSpec:=⟨⟨[9,10,11],[.val (.slice ZZ4),.val (.int .i64),.val (.int .i64)]⟩,[((.exit 0),⟨[],[]⟩),(.ret,⟨[2],[.val (.int .i64)]⟩)],([2,4,5]++seg 11 10),uk3_,[]⟩
def ubik_:Env:=mkE uue_ [(1,uj4_)] [] true
theorem uq1_:EnvOK Tryz.prog true ubik_:=enk u6w_
def uhi_:Code:=uj_ Tryz.f23
theorem u4q_:CutOK Tryz.prog true Tryz.f23.ntmps uj4_ (sub uhi_ [1,1,0,1,0]) :=
 lok (body:=sub uhi_ [1,1,0,1,0,0]) (n:=2) (l:=[]) uq1_ trivial
theorem uk4_:uf_ Tryz.prog 23∧FunOK Tryz.prog 23 ugv_ :=
 fnk (c:=uhi_) (l:=[(uj4_,sub uhi_ [1,1,0,1,0])]) uq1_ Tryz.func23 ⟨⟨by kernel_rfl,u4q_⟩,trivial⟩
def ublr_:FSpec:=⟨[.val (.slice ZZ4)],[.val (.int .i64),.val (.int .i64)],ush_,true⟩
def ubls_:List (Nat×FSpec):=[(20,uq0_),(23,ugv_)]
theorem ubwm_:FsOK Tryz.prog ubls_:=⟨uyw_,uk4_,trivial⟩
def u01_:CSpec:=⟨⟨[5,13,14,15],[.val (.int .i64),.val (.slice ZZ4),.val (.int .i64),.val (.int .i64)]⟩,[((.exit 0),⟨[5],[.val (.int .i64)]⟩)],([5,7]++seg 15 9),u3u_,[]⟩
def ub8g_:Env:=mkE ubls_ [(1,u01_)] [] true
theorem ubb7_:EnvOK Tryz.prog true ub8g_:=enk ubwm_
def uyx_:Code:=uj_ Tryz.f7
theorem ubsv_:CutOK Tryz.prog true Tryz.f7.ntmps u01_ (sub uyx_ [1,1,1,0,1,0]) :=
 lok (body:=sub uyx_ [1,1,1,0,1,0,0]) (n:=2) (l:=[]) ubb7_ trivial
theorem ub6a_:uf_ Tryz.prog 7∧FunOK Tryz.prog 7 ublr_ :=
 fnk (c:=uyx_) (l:=[(u01_,sub uyx_ [1,1,1,0,1,0])]) ubb7_ Tryz.func7 ⟨⟨by kernel_rfl,ubsv_⟩,trivial⟩
def uyy_:FSpec:=⟨[.val (.slice ZZ4)],[.val (.int .i64)],unu_,true⟩
def ubrp_:List (Nat×FSpec):=[(21,ux3_)]
theorem ubzw_:FsOK Tryz.prog ubrp_:=⟨ubb6_,trivial⟩
def u4r_:CSpec:=⟨⟨[0,3],[.val (.slice ZZ4),.val (.int .i64)]⟩,[((.exit 0),⟨[],[]⟩),(.ret,⟨[2],[.val (.int .i64)]⟩)],([2,3,4]++seg 8 14),u92_,[]⟩
def uccg_:Env:=mkE ubrp_ [(1,u4r_)] [] true
theorem ubha_:EnvOK Tryz.prog true uccg_:=enk ubzw_
def u25_:Code:=uj_ Tryz.f24
theorem ubwn_:CutOK Tryz.prog true Tryz.f24.ntmps u4r_ (sub u25_ [1,1,0,1,0]) :=
 lok (body:=sub u25_ [1,1,0,1,0,0]) (n:=2) (l:=[]) ubha_ trivial
theorem ubaa_:uf_ Tryz.prog 24∧FunOK Tryz.prog 24 uyy_ :=
 fnk (c:=u25_) (l:=[(u4r_,sub u25_ [1,1,0,1,0])]) ubha_ Tryz.func24 ⟨⟨by kernel_rfl,ubwn_⟩,trivial⟩
def ucaj_:FSpec:=⟨[.val (.slice ZZ4)],[.val (.int .i64),.val (.int .i64)],ucb0_,true⟩
def ucak_:List (Nat×FSpec):=[(22,ublq_),(24,uyy_)]
theorem ucch_:FsOK Tryz.prog ucak_:=⟨ubwl_,ubaa_,trivial⟩
def ubsw_:CSpec:=⟨⟨[0,5,6],[.val (.slice ZZ4),.val (.int .i64),.val (.int .i64)]⟩,[((.exit 0),⟨[5],[.val (.int .i64)]⟩)],([5,6]++seg 12 13),ubzh_,[]⟩
def ucm6_:Env:=mkE ucak_ [(1,ubsw_)] [] true
theorem ub2d_:EnvOK Tryz.prog true ucm6_:=enk ucch_
def ubwo_:Code:=uj_ Tryz.f8
theorem ub8h_:CutOK Tryz.prog true Tryz.f8.ntmps ubsw_ (sub ubwo_ [1,1,1,0,1,0]) :=
 lok (body:=sub ubwo_ [1,1,1,0,1,0,0]) (n:=2) (l:=[]) ub2d_ trivial
theorem ucjw_:uf_ Tryz.prog 8∧FunOK Tryz.prog 8 ucaj_ :=
 fnk (c:=ubwo_) (l:=[(ubsw_,sub ubwo_ [1,1,1,0,1,0])]) ub2d_ Tryz.func8 ⟨⟨by kernel_rfl,ub8h_⟩,trivial⟩
def ugo_:FSpec:=⟨[.val (.map .str (.int .i64))],[.cl 43 (.map .str (.int .i64))],uea_,true⟩
def ugp_:List (Nat×FSpec):=[]
theorem unp_:FsOK Tryz.prog ugp_:=trivial
def uq2_:Env:=mkE ugp_ [] [] true
theorem un1_:EnvOK Tryz.prog true uq2_:=enk unp_
def uq3_:Code:=uj_ Tryz.f26
theorem upy_:uf_ Tryz.prog 26∧FunOK Tryz.prog 26 ugo_ :=
 fnk (c:=uq3_) (l:=[]) un1_ Tryz.func26 trivial
def ublt_:FSpec:=⟨[.val (.slice ZZ4)],[.val (.slice .str),.val ZZ18,.val (.int .i64)],u7z_,false⟩
def ublu_:List (Nat×FSpec):=[(20,uq0_),(23,ugv_),(25,uwr_),(26,ugo_)]
theorem ubwp_:FsOK Tryz.prog ublu_:=⟨uyw_,uk4_,ubij_,upy_,trivial⟩
def u02_:CSpec:=⟨⟨[6,19,20,21],[.omap .str (.int .i64),.val (.slice ZZ4),.val (.int .i64),.val (.int .i64)]⟩,[((.exit 0),⟨[6],[.omap .str (.int .i64)]⟩)],([8]++seg 21 15),u3v_,[]⟩
def u03_:CSpec:=⟨⟨[6,10,39,40,41],[.val (.map .str (.int .i64)),.own 3 (.int .i64) false,.val (.slice .str),.val (.int .i64),.val (.int .i64)]⟩,[((.exit 2),⟨[10],[.own 3 (.int .i64) false]⟩)],([10,12]++seg 41 11),u3w_,[]⟩
def ub8i_:Env:=mkE ublu_ [(1,u02_),(3,u03_)] [] false
theorem ux4_:EnvOK Tryz.prog false ub8i_:=enk ubwp_
def ui1_:Code:=uj_ Tryz.f9
theorem ubsx_:CutOK Tryz.prog false Tryz.f9.ntmps u02_ (sub ui1_ [1,1,1,0,1,0]) :=
 lok (body:=sub ui1_ [1,1,1,0,1,0,0]) (n:=2) (l:=[]) ux4_ trivial
theorem ubsy_:CutOK Tryz.prog false Tryz.f9.ntmps u03_ (sub ui1_ [1,1,1,1,1,1,0,1,0]) :=
 lok (body:=sub ui1_ [1,1,1,1,1,1,0,1,0,0]) (n:=4) (l:=[]) ux4_ trivial
theorem ub6b_:uf_ Tryz.prog 9∧FunOK Tryz.prog 9 ublt_ :=
 fnk (c:=ui1_) (l:=[(u02_,sub ui1_ [1,1,1,0,1,0]),(u03_,sub ui1_ [1,1,1,1,1,1,0,1,0])]) ux4_ Tryz.func9 ⟨⟨by kernel_rfl,ubsx_⟩,⟨by kernel_rfl,ubsy_⟩,trivial⟩
def ucir_:FSpec:=⟨[.val (.slice .str),.val .str],[.val (.slice .str)],ucph_,true⟩
def ucis_:List (Nat×FSpec):=[]
theorem ucg3_:FsOK Tryz.prog ucis_:=trivial
def ub6c_:CSpec:=⟨⟨[0,1,5,6],[.val (.slice .str),.val .str,.own 9 .str false,.val (.int .i64)]⟩,[((.exit 0),⟨[5],[.own 9 .str false]⟩),(.ret,⟨[4],[.val (.slice .str)]⟩)],(seg 4 37),ucil_,[]⟩
def ucsl_:Env:=mkE ucis_ [(0,ub6c_)] [] true
theorem ucal_:EnvOK Tryz.prog true ucsl_:=enk ucg3_
def ucci_:Code:=uj_ Tryz.f27
theorem uce7_:CutOK Tryz.prog true Tryz.f27.ntmps ub6c_ (sub ucci_ [1,1,0,1,0]) :=
 lok (body:=sub ucci_ [1,1,0,1,0,0]) (n:=1) (l:=[]) ucal_ trivial
theorem ucpr_:uf_ Tryz.prog 27∧FunOK Tryz.prog 27 ucir_ :=
 fnk (c:=ucci_) (l:=[(ub6c_,sub ucci_ [1,1,0,1,0])]) ucal_ Tryz.func27 ⟨⟨by kernel_rfl,uce7_⟩,trivial⟩
def ucam_:FSpec:=⟨[.val (.slice ZZ4)],[.val (.slice .str),.val ZZ18,.val (.int .i64)],ucb1_,true⟩
def ucan_:List (Nat×FSpec):=[(22,ublq_),(24,uyy_),(27,ucir_)]
theorem uccj_:FsOK Tryz.prog ucan_:=⟨ubwl_,ubaa_,ucpr_,trivial⟩
def ubsz_:CSpec:=⟨⟨[0,6,7],[.val (.slice ZZ4),.val (.slice .str),.val (.int .i64)]⟩,[((.exit 0),⟨[6],[.val (.slice .str)]⟩)],([6,7]++seg 17 13),ubzi_,[]⟩
def ubs0_:CSpec:=⟨⟨[0,6,9,10,11],[.val (.slice ZZ4),.val (.slice .str),.val (.int .i64),.val (.int .i64),.val (.int .i64)]⟩,[((.exit 4),⟨[10],[.val (.int .i64)]⟩)],([10,11]++seg 36 23),ubzj_,[]⟩
def ubs1_:CSpec:=⟨⟨[0,6,8,9],[.val (.slice ZZ4),.val (.slice .str),.own 3 (.int .i64) false,.val (.int .i64)]⟩,[((.exit 2),⟨[8],[.own 3 (.int .i64) false]⟩)],([8,9,10,11]++seg 30 33),ubzk_,[]⟩
def ucm7_:Env:=mkE ucan_ [(1,ubsz_),(5,ubs0_),(3,ubs1_)] [] true
theorem u8m_:EnvOK Tryz.prog true ucm7_:=enk uccj_
def uq4_:Code:=uj_ Tryz.f10
theorem ub8j_:CutOK Tryz.prog true Tryz.f10.ntmps ubsz_ (sub uq4_ [1,1,1,0,1,0]) :=
 lok (body:=sub uq4_ [1,1,1,0,1,0,0]) (n:=2) (l:=[]) u8m_ trivial
theorem ub8k_:CutOK Tryz.prog true Tryz.f10.ntmps ubs0_ (sub uq4_ [1,1,1,1,1,0,1,0,0,1,0,0,1,0,1,0]) :=
 lok (body:=sub uq4_ [1,1,1,1,1,0,1,0,0,1,0,0,1,0,1,0,0]) (n:=6) (l:=[]) u8m_ trivial
theorem ub8l_:CutOK Tryz.prog true Tryz.f10.ntmps ubs1_ (sub uq4_ [1,1,1,1,1,0,1,0]) :=
 lok (body:=sub uq4_ [1,1,1,1,1,0,1,0,0]) (n:=4) (l:=[(ubs0_,sub uq4_ [1,1,1,1,1,0,1,0,0,1,0,0,1,0,1,0])]) u8m_ ⟨⟨by kernel_rfl,ub8k_⟩,trivial⟩
theorem ucjx_:uf_ Tryz.prog 10∧FunOK Tryz.prog 10 ucam_ :=
 fnk (c:=uq4_) (l:=[(ubsz_,sub uq4_ [1,1,1,0,1,0]),(ubs1_,sub uq4_ [1,1,1,1,1,0,1,0])]) u8m_ Tryz.func10 ⟨⟨by kernel_rfl,ub8j_⟩,⟨by kernel_rfl,ub8l_⟩,trivial⟩
def ublv_:FSpec:=⟨[.val (.int .i64)],[.val .bool],u70_,true⟩
def ublw_:List (Nat×FSpec):=[]
theorem ubwq_:FsOK Tryz.prog ublw_:=trivial
def ub8m_:Env:=mkE ublw_ [] [] true
theorem ubzx_:EnvOK Tryz.prog true ub8m_:=enk ubwq_
def ub8n_:Code:=uj_ Tryz.f45
theorem ub6d_:uf_ Tryz.prog 45∧FunOK Tryz.prog 45 ublv_ :=
 fnk (c:=ub8n_) (l:=[]) ubzx_ Tryz.func45 trivial
def ufa_:FSpec:=⟨[.val (.int .i64),.val (.int .i64)],[.val (.int .i64)],ude_,true⟩
def ubb8_:List (Nat×FSpec):=[(45,ublv_)]
theorem ubpc_:FsOK Tryz.prog ubb8_:=⟨ub6d_,trivial⟩
def ub29_:Env:=mkE ubb8_ [] [] true
theorem ubs2_:EnvOK Tryz.prog true ub29_:=enk ubpc_
def ub3a_:Code:=uj_ Tryz.f31
theorem ug6_:uf_ Tryz.prog 31∧FunOK Tryz.prog 31 ufa_ :=
 fnk (c:=ub3a_) (l:=[]) ubs2_ Tryz.func31 trivial
def ublx_:FSpec:=⟨[.val ZZ4],[.val (.agg ZZ6)],u71_,true⟩
def ubly_:List (Nat×FSpec):=[]
theorem ubwr_:FsOK Tryz.prog ubly_:=trivial
def ub8o_:Env:=mkE ubly_ [] [] true
theorem ubzy_:EnvOK Tryz.prog true ub8o_:=enk ubwr_
def ub8p_:Code:=uj_ Tryz.f33
theorem ub6e_:uf_ Tryz.prog 33∧FunOK Tryz.prog 33 ublx_ :=
 fnk (c:=ub8p_) (l:=[]) ubzy_ Tryz.func33 trivial
def u8n_:FSpec:=⟨[.val .str],[.val .bool],utq_,true⟩
def u8o_:List (Nat×FSpec):=[]
theorem ublz_:FsOK Tryz.prog u8o_:=trivial
def ubzz_:Env:=mkE u8o_ [] [] true
theorem ubpd_:EnvOK Tryz.prog true ubzz_:=enk ublz_
def ubz0_:Code:=uj_ Tryz.f54
theorem ubws_:uf_ Tryz.prog 54∧FunOK Tryz.prog 54 u8n_ :=
 fnk (c:=ubz0_) (l:=[]) ubpd_ Tryz.func54 trivial
def uda_:FSpec:=⟨[.val .str,.val .str],[.val (.int .i64)],ubx_,true⟩
def u18_:List (Nat×FSpec):=[(54,u8n_)]
theorem ubeb_:FsOK Tryz.prog u18_:=⟨ubws_,trivial⟩
def ubs3_:Env:=mkE u18_ [] [] true
theorem ubil_:EnvOK Tryz.prog true ubs3_:=enk ubeb_
def ubs4_:Code:=uj_ Tryz.f46
theorem uer_:uf_ Tryz.prog 46∧FunOK Tryz.prog 46 uda_ :=
 fnk (c:=ubs4_) (l:=[]) ubil_ Tryz.func46 trivial
def usn_:FSpec:=⟨[.val ZZ18],[.val (.int .i64)],uy5_,true⟩
def ub2e_:List (Nat×FSpec):=[]
theorem ub6f_:FsOK Tryz.prog ub2e_:=trivial
def ubec_:CSpec:=⟨⟨[3,6,7,8],[.val (.int .i64),.val ZZ18,.val (.int .i64),.val (.int .i64)]⟩,[((.exit 0),⟨[],[]⟩),(.ret,⟨[2],[.val (.int .i64)]⟩)],([2,5]++seg 8 9),ubkm_,[]⟩
def ucg4_:Env:=mkE ub2e_ [(0,ubec_)] [] true
theorem ubrq_:EnvOK Tryz.prog true ucg4_:=enk ub6f_
def ubed_:Code:=uj_ Tryz.f30
theorem ub3b_:CutOK Tryz.prog true Tryz.f30.ntmps ubec_ (sub ubed_ [1,1,0,1,0]) :=
 lok (body:=sub ubed_ [1,1,0,1,0,0]) (n:=1) (l:=[]) ubrq_ trivial
theorem uzk_:uf_ Tryz.prog 30∧FunOK Tryz.prog 30 usn_ :=
 fnk (c:=ubed_) (l:=[(ubec_,sub ubed_ [1,1,0,1,0])]) ubrq_ Tryz.func30 ⟨⟨by kernel_rfl,ub3b_⟩,trivial⟩
def u4s_:FSpec:=⟨[.val (.agg ZZ6),.val (.agg ZZ6)],[.val (.int .i64)],u0z_,true⟩
def u4t_:List (Nat×FSpec):=[(30,usn_),(31,ufa_),(46,uda_)]
theorem ubim_:FsOK Tryz.prog u4t_:=⟨uzk_,ug6_,uer_,trivial⟩
def ubwt_:Env:=mkE u4t_ [] [] true
theorem ubl0_:EnvOK Tryz.prog true ubwt_:=enk ubim_
def ubwu_:Code:=uj_ Tryz.f32
theorem ubs5_:uf_ Tryz.prog 32∧FunOK Tryz.prog 32 u4s_ :=
 fnk (c:=ubwu_) (l:=[]) ubl0_ Tryz.func32 trivial
def u8p_:FSpec:=⟨[.val (.int .i64),.val (.int .i64),.val (.ptr (.slice ZZ4))],[.val (.int .i64)],ujs_,true⟩
def u8q_:List (Nat×FSpec):=[(20,uq0_),(30,usn_),(31,ufa_),(32,u4s_),(33,ublx_)]
theorem ubl1_:FsOK Tryz.prog u8q_:=⟨uyw_,uzk_,ug6_,ubs5_,ub6e_,trivial⟩
def ubz1_:Env:=mkE u8q_ [] [] true
theorem ubpe_:EnvOK Tryz.prog true ubz1_:=enk ubl1_
def ubz2_:Code:=uj_ Tryz.f29
theorem ubwv_:uf_ Tryz.prog 29∧FunOK Tryz.prog 29 u8p_ :=
 fnk (c:=ubz2_) (l:=[]) ubpe_ Tryz.func29 trivial
def uik_:FSpec:=⟨[.io 3 (.int .i64),.val (.int .i64),.val (.int .i64),.hof false ZZ15 (.int .i64)],[],u4_,false⟩
def uil_:List (Nat×FSpec):=[]
theorem uq5_:FsOK Tryz.prog uil_:=trivial
def ueb_:CSpec:=⟨⟨[0,1,3,9],[.own 3 (.int .i64) true,.val (.int .i64),.hof false ZZ15 (.int .i64),.val (.int .i64)]⟩,[((.exit 2),⟨[0],[.own 3 (.int .i64) true]⟩)],([9]++seg 18 35),ucl_,[]⟩
def uec_:CSpec:=⟨⟨[0,1,2,3,8],[.own 3 (.int .i64) true,.val (.int .i64),.val (.int .i64),.hof false ZZ15 (.int .i64),.val (.int .i64)]⟩,[((.exit 0),⟨[0],[.own 3 (.int .i64) true]⟩)],([8,9]++seg 12 41),uej_,[]⟩
def uvx_:Env:=mkE uil_ [(2,ueb_),(0,uec_)] [] false
theorem udq_:EnvOK Tryz.prog false uvx_:=enk uq5_
def u2_:Code:=uj_ Tryz.f52
theorem upz_:CutOK Tryz.prog false Tryz.f52.ntmps ueb_ (sub u2_ [1,0,0,1,0,0,1,0]) :=
 lok (body:=sub u2_ [1,0,0,1,0,0,1,0,0]) (n:=3) (l:=[]) udq_ trivial
theorem up0_:CutOK Tryz.prog false Tryz.f52.ntmps uec_ (sub u2_ [1,0]) :=
 lok (body:=sub u2_ [1,0,0]) (n:=1) (l:=[(ueb_,sub u2_ [1,0,0,1,0,0,1,0])]) udq_ ⟨⟨by kernel_rfl,upz_⟩,trivial⟩
theorem uuf_:uf_ Tryz.prog 52∧FunOK Tryz.prog 52 uik_ :=
 fnk (c:=u2_) (l:=[(uec_,sub u2_ [1,0])]) udq_ Tryz.func52 ⟨⟨by kernel_rfl,up0_⟩,trivial⟩
def uly_:FSpec:=⟨[.io 3 (.int .i64),.val (.int .i64),.val (.int .i64),.val (.int .i64),.hof false ZZ15 (.int .i64)],[],u9_,true⟩
def ulz_:List (Nat×FSpec):=[]
theorem uvy_:FsOK Tryz.prog ulz_:=trivial
def ufp_:CSpec:=⟨⟨[0,1,2,3,10],[.own 3 (.int .i64) true,.val (.int .i64),.val (.int .i64),.val (.int .i64),.val (.int .i64)]⟩,[((.exit 0),⟨[0],[.own 3 (.int .i64) true]⟩)],(seg 10 28),ugi_,[]⟩
def u26_:Env:=mkE ulz_ [(0,ufp_)] [] true
theorem uj5_:EnvOK Tryz.prog true u26_:=enk uvy_
def ud8_:Code:=uj_ Tryz.f103
theorem uug_:CutOK Tryz.prog true Tryz.f103.ntmps ufp_ (sub ud8_ [1,0]) :=
 lok (body:=sub ud8_ [1,0,0]) (n:=1) (l:=[]) uj5_ trivial
theorem u04_:uf_ Tryz.prog 103∧FunOK Tryz.prog 103 uly_ :=
 fnk (c:=ud8_) (l:=[(ufp_,sub ud8_ [1,0])]) uj5_ Tryz.func103 ⟨⟨by kernel_rfl,uug_⟩,trivial⟩
def upm_:FSpec:=⟨[.io 3 (.int .i64),.val (.int .i64),.val (.int .i64),.val (.int .i64),.hof false ZZ15 (.int .i64)],[],uc5_,true⟩
def upn_:List (Nat×FSpec):=[(103,uly_)]
theorem u05_:FsOK Tryz.prog upn_:=⟨u04_,trivial⟩
def uhd_:CSpec:=⟨⟨[0,2,4,10,11],[.own 3 (.int .i64) true,.val (.int .i64),.hof false ZZ15 (.int .i64),.val (.int .i64),.val (.int .i64)]⟩,[((.exit 0),⟨[0,10],[.own 3 (.int .i64) true,.val (.int .i64)]⟩)],([10,11]++seg 18 32),uh2_,[]⟩
def ubab_:Env:=mkE upn_ [(0,uhd_)] [] true
theorem um7_:EnvOK Tryz.prog true ubab_:=enk u05_
def ufk_:Code:=uj_ Tryz.f79
theorem uzl_:CutOK Tryz.prog true Tryz.f79.ntmps uhd_ (sub ufk_ [1,1,0,0]) :=
 lok (body:=sub ufk_ [1,1,0,0,0]) (n:=1) (l:=[]) um7_ trivial
theorem u6x_:uf_ Tryz.prog 79∧FunOK Tryz.prog 79 upm_ :=
 fnk (c:=ufk_) (l:=[(uhd_,sub ufk_ [1,1,0,0])]) um7_ Tryz.func79 ⟨⟨by kernel_rfl,uzl_⟩,trivial⟩
def ul_ (n:Nat):FSpec:=⟨[.io 3 (.int .i64),.val (.int .i64),.val (.int .i64),.val (.int .i64),.hof false ZZ15 (.int .i64)],[],un_ n,false⟩
def um8_:FSpec:=⟨[.io 3 (.int .i64),.val (.int .i64),.val (.int .i64),.val (.int .i64),.hof false ZZ15 (.int .i64)],[],ubc_,false⟩
def um9_ (n:Nat):List (Nat×FSpec):=[(53,(ul_ n)),(79,upm_)]
theorem ux5_ (n:Nat) (ih:uf_ Tryz.prog 53∧FunOK Tryz.prog 53 (ul_ n)):FsOK Tryz.prog (um9_ n):=⟨ih,u6x_,trivial⟩
def ugl_ (n:Nat):CSpec:=⟨⟨[0,1,4,10,11],[.own 3 (.int .i64) true,.val (.int .i64),.hof false ZZ15 (.int .i64),.val (.int .i64),.val (.int .i64)]⟩,[((.exit 0),⟨[0,10],[.own 3 (.int .i64) true,.val (.int .i64)]⟩)],([10,11,12]++seg 31 23),(ud5_ (un_ n)),[]⟩
def ugm_ (n:Nat):CSpec:=⟨⟨[0,10,13],[.own 3 (.int .i64) true,.val (.int .i64),.val (.int .i64)]⟩,[((.exit 2),⟨[0],[.own 3 (.int .i64) true]⟩)],([13]++seg 55 22),(ud6_ (un_ n)),[]⟩
def ugn_ (n:Nat):CSpec:=⟨⟨[0,2,4,14,15],[.own 3 (.int .i64) true,.val (.int .i64),.hof false ZZ15 (.int .i64),.val (.int .i64),.val (.int .i64)]⟩,[((.exit 4),⟨[0,14],[.own 3 (.int .i64) true,.val (.int .i64)]⟩)],([14,15,16]++seg 83 24),(ud7_ (un_ n)),[]⟩
def ufq_ (n:Nat):CSpec:=⟨⟨[0,14,17],[.own 3 (.int .i64) true,.val (.int .i64),.val (.int .i64)]⟩,[((.exit 6),⟨[0],[.own 3 (.int .i64) true]⟩)],([17]++seg 108 21),(udi_ (un_ n)),[]⟩
def ufr_ (n:Nat):CSpec:=⟨⟨[1,2,3,18,19,140],[.val (.int .i64),.val (.int .i64),.val (.int .i64),.val (.int .i64),.val (.int .i64),.val .bool]⟩,[(.normal,⟨[20,21],[.val (.int .i64),.val (.int .i64)]⟩)],[20,21,141,142,143,144,145,146],(ubi_ (un_ n)),[]⟩
def ufs_ (n:Nat):CSpec:=⟨⟨[0,4,20,21,22],[.own 3 (.int .i64) true,.hof false ZZ15 (.int .i64),.val (.int .i64),.val (.int .i64),.val (.int .i64)]⟩,[((.exit 8),⟨[0,20],[.own 3 (.int .i64) true,.val (.int .i64)]⟩)],([20,21,23]++seg 149 26),(udj_ (un_ n)),[]⟩
def uft_ (n:Nat):CSpec:=⟨⟨[0,2,4,20,24,185],[.own 3 (.int .i64) true,.val (.int .i64),.hof false ZZ15 (.int .i64),.val (.int .i64),.val (.int .i64),.val .bool]⟩,[(.normal,⟨[0],[.own 3 (.int .i64) true]⟩)],[186,187,188,189,190,191],(ubj_ (un_ n)),[]⟩
def ufu_ (n:Nat):CSpec:=⟨⟨[0,1,4,18,20,199],[.own 3 (.int .i64) true,.val (.int .i64),.hof false ZZ15 (.int .i64),.val (.int .i64),.val (.int .i64),.val .bool]⟩,[(.normal,⟨[0],[.own 3 (.int .i64) true]⟩)],[200,201,202,203,204,205],(ubk_ (un_ n)),[]⟩
def u4u_ (n:Nat):Env:=mkE (um9_ n) [(1,(ugl_ n)),(4,(ugm_ n)),(7,(ugn_ n)),(10,(ufq_ n)),(12,(ufr_ n)),(13,(ufs_ n)),(16,(uft_ n)),(17,(ufu_ n))] [] false
theorem uw_ (n:Nat) (ih:uf_ Tryz.prog 53∧FunOK Tryz.prog 53 (ul_ n)):EnvOK Tryz.prog false (u4u_ n):=enk (ux5_ n ih)
def uc_:Code:=uj_ Tryz.f53
theorem uvz_ (n:Nat) (ih:uf_ Tryz.prog 53∧FunOK Tryz.prog 53 (ul_ n)):CutOK Tryz.prog false Tryz.f53.ntmps (ugl_ n) (sub uc_ [0,1,0,1,1,0,0]) :=
 lok (body:=sub uc_ [0,1,0,1,1,0,0,0]) (n:=2) (l:=[]) (uw_ n ih) trivial
theorem uv0_ (n:Nat) (ih:uf_ Tryz.prog 53∧FunOK Tryz.prog 53 (ul_ n)):CutOK Tryz.prog false Tryz.f53.ntmps (ugm_ n) (sub uc_ [0,1,0,1,1,1,0,1,0]) :=
 lok (body:=sub uc_ [0,1,0,1,1,1,0,1,0,0]) (n:=5) (l:=[]) (uw_ n ih) trivial
theorem uv1_ (n:Nat) (ih:uf_ Tryz.prog 53∧FunOK Tryz.prog 53 (ul_ n)):CutOK Tryz.prog false Tryz.f53.ntmps (ugn_ n) (sub uc_ [1,0,1,0,1,1,0,0]) :=
 lok (body:=sub uc_ [1,0,1,0,1,1,0,0,0]) (n:=8) (l:=[]) (uw_ n ih) trivial
theorem uuh_ (n:Nat) (ih:uf_ Tryz.prog 53∧FunOK Tryz.prog 53 (ul_ n)):CutOK Tryz.prog false Tryz.f53.ntmps (ufq_ n) (sub uc_ [1,0,1,0,1,1,1,0,1,0]) :=
 lok (body:=sub uc_ [1,0,1,0,1,1,1,0,1,0,0]) (n:=11) (l:=[]) (uw_ n ih) trivial
theorem uui_ (n:Nat) (ih:uf_ Tryz.prog 53∧FunOK Tryz.prog 53 (ul_ n)):CutOK Tryz.prog false Tryz.f53.ntmps (ufr_ n) (sub uc_ [1,1,1,1,1,0,1]) :=
 brk (c:=umd_ (sub uc_ [1,1,1,1,1,0,1])) (x:=sub uc_ [1,1,1,1,1,0,1,0]) (y:=sub uc_ [1,1,1,1,1,0,1,1]) (n:=12) (lx:=[]) (ly:=[]) (uw_ n ih) trivial trivial
theorem uuj_ (n:Nat) (ih:uf_ Tryz.prog 53∧FunOK Tryz.prog 53 (ul_ n)):CutOK Tryz.prog false Tryz.f53.ntmps (ufs_ n) (sub uc_ [1,1,1,1,1,1,1,0,0]) :=
 lok (body:=sub uc_ [1,1,1,1,1,1,1,0,0,0]) (n:=14) (l:=[]) (uw_ n ih) trivial
theorem uuk_ (n:Nat) (ih:uf_ Tryz.prog 53∧FunOK Tryz.prog 53 (ul_ n)):CutOK Tryz.prog false Tryz.f53.ntmps (uft_ n) (sub uc_ [1,1,1,1,1,1,1,1,1,0,1]) :=
 brk (c:=umd_ (sub uc_ [1,1,1,1,1,1,1,1,1,0,1])) (x:=sub uc_ [1,1,1,1,1,1,1,1,1,0,1,0]) (y:=sub uc_ [1,1,1,1,1,1,1,1,1,0,1,1]) (n:=16) (lx:=[]) (ly:=[]) (uw_ n ih) trivial trivial
theorem uul_ (n:Nat) (ih:uf_ Tryz.prog 53∧FunOK Tryz.prog 53 (ul_ n)):CutOK Tryz.prog false Tryz.f53.ntmps (ufu_ n) (sub uc_ [1,1,1,1,1,1,1,1,1,1,0,1]) :=
 brk (c:=umd_ (sub uc_ [1,1,1,1,1,1,1,1,1,1,0,1])) (x:=sub uc_ [1,1,1,1,1,1,1,1,1,1,0,1,0]) (y:=sub uc_ [1,1,1,1,1,1,1,1,1,1,0,1,1]) (n:=17) (lx:=[]) (ly:=[]) (uw_ n ih) trivial trivial
theorem uzm_ (n:Nat) (ih:uf_ Tryz.prog 53∧FunOK Tryz.prog 53 (ul_ n)):uf_ Tryz.prog 53∧FunOK Tryz.prog 53 (ul_ (n+1)) :=
 fnk (c:=uc_) (l:=[((ugl_ n),sub uc_ [0,1,0,1,1,0,0]),((ugm_ n),sub uc_ [0,1,0,1,1,1,0,1,0]),((ugn_ n),sub uc_ [1,0,1,0,1,1,0,0]),((ufq_ n),sub uc_ [1,0,1,0,1,1,1,0,1,0]),((ufr_ n),sub uc_ [1,1,1,1,1,0,1]),((ufs_ n),sub uc_ [1,1,1,1,1,1,1,0,0]),((uft_ n),sub uc_ [1,1,1,1,1,1,1,1,1,0,1]),((ufu_ n),sub uc_ [1,1,1,1,1,1,1,1,1,1,0,1])]) (uw_ n ih) Tryz.func53 ⟨⟨by kernel_rfl,(uvz_ n ih)⟩,⟨by kernel_rfl,(uv0_ n ih)⟩,⟨by kernel_rfl,(uv1_ n ih)⟩,⟨by kernel_rfl,(uuh_ n ih)⟩,⟨by kernel_rfl,(uui_ n ih)⟩,⟨by kernel_rfl,(uuj_ n ih)⟩,⟨by kernel_rfl,(uuk_ n ih)⟩,⟨by kernel_rfl,(uul_ n ih)⟩,trivial⟩
theorem uzn_:∀ n,uf_ Tryz.prog 53∧FunOK Tryz.prog 53 (ul_ n):=fun n=>Nat.rec ⟨⟨Tryz.f53,uc_,Tryz.func53,by kernel_rfl,by kernel_rfl⟩,fun w I v args bs _ _ _ r hr=>by cases hr⟩ (fun n ih=>uzm_ n ih) n
theorem u27_:uf_ Tryz.prog 53∧FunOK Tryz.prog 53 um8_:=uzn_ 100
def upo_:FSpec:=⟨[.io 3 (.int .i64),.val (.int .i64),.hof false ZZ15 (.int .i64)],[],uek_,false⟩
def upp_:List (Nat×FSpec):=[(52,uik_),(53,um8_)]
theorem u06_:FsOK Tryz.prog upp_:=⟨uuf_,u27_,trivial⟩
def uhe_:CSpec:=⟨⟨[0,1,2,6,7,8],[.own 3 (.int .i64) true,.val (.int .i64),.hof false ZZ15 (.int .i64),.val (.int .i64),.val (.int .i64),.val (.int .i64)]⟩,[((.exit 0),⟨[0,7],[.own 3 (.int .i64) true,.val (.int .i64)]⟩)],([7,8]++seg 11 12),uex_,[]⟩
def uhf_:CSpec:=⟨⟨[0,1,2,6,7,8],[.own 3 (.int .i64) true,.val (.int .i64),.hof false ZZ15 (.int .i64),.val (.int .i64),.val (.int .i64),.val (.int .i64)]⟩,[((.exit 4),⟨[0,7],[.own 3 (.int .i64) true,.val (.int .i64)]⟩)],([7,8]++seg 33 16),uey_,[]⟩
def uhg_:CSpec:=⟨⟨[0,1,2,6],[.own 3 (.int .i64) true,.val (.int .i64),.hof false ZZ15 (.int .i64),.val (.int .i64)]⟩,[((.exit 2),⟨[0],[.own 3 (.int .i64) true]⟩)],([6,7,8,9]++seg 28 35),uez_,[]⟩
def ubac_:Env:=mkE upp_ [(0,uhe_),(4,uhf_),(2,uhg_)] [] false
theorem ud9_:EnvOK Tryz.prog false ubac_:=enk u06_
def u0_:Code:=uj_ Tryz.f44
theorem uzo_:CutOK Tryz.prog false Tryz.f44.ntmps uhe_ (sub u0_ [1,1,0,0]) :=
 lok (body:=sub u0_ [1,1,0,0,0]) (n:=1) (l:=[]) ud9_ trivial
theorem uzp_:CutOK Tryz.prog false Tryz.f44.ntmps uhf_ (sub u0_ [1,1,1,1,0,0,1,0,1,0,0]) :=
 lok (body:=sub u0_ [1,1,1,1,0,0,1,0,1,0,0,0]) (n:=5) (l:=[]) ud9_ trivial
theorem uzq_:CutOK Tryz.prog false Tryz.f44.ntmps uhg_ (sub u0_ [1,1,1,1,0]) :=
 lok (body:=sub u0_ [1,1,1,1,0,0]) (n:=3) (l:=[(uhf_,sub u0_ [1,1,1,1,0,0,1,0,1,0,0])]) ud9_ ⟨⟨by kernel_rfl,uzp_⟩,trivial⟩
theorem u6y_:uf_ Tryz.prog 44∧FunOK Tryz.prog 44 upo_ :=
 fnk (c:=u0_) (l:=[(uhe_,sub u0_ [1,1,0,0]),(uhg_,sub u0_ [1,1,1,1,0])]) ud9_ Tryz.func44 ⟨⟨by kernel_rfl,uzo_⟩,⟨by kernel_rfl,uzq_⟩,trivial⟩
def un2_:FSpec:=⟨[.io 3 (.int .i64),.hof false ZZ15 (.int .i64)],[],u5_,false⟩
def un3_:List (Nat×FSpec):=[(44,upo_)]
theorem uzr_:FsOK Tryz.prog un3_:=⟨u6y_,trivial⟩
def u6z_:Env:=mkE un3_ [] [] false
theorem u07_:EnvOK Tryz.prog false u6z_:=enk uzr_
def u60_:Code:=uj_ Tryz.f28
theorem u4v_:uf_ Tryz.prog 28∧FunOK Tryz.prog 28 un2_ :=
 fnk (c:=u60_) (l:=[]) u07_ Tryz.func28 trivial
def ubl2_:FSpec:=⟨[.val (.slice ZZ4)],[.val ZZ18,.val (.int .i64)],u72_,false⟩
def ubl3_:List (Nat×FSpec):=[(23,ugv_),(28,un2_),(29,u8p_)]
theorem ubww_:FsOK Tryz.prog ubl3_:=⟨uk4_,u4v_,ubwv_,trivial⟩
def u08_:CSpec:=⟨⟨[5,13,14],[.own 3 (.int .i64) true,.val (.int .i64),.val (.int .i64)]⟩,[((.exit 0),⟨[5],[.own 3 (.int .i64) true]⟩)],([5,6]++seg 14 8),utr_,[]⟩
def ub8q_:Env:=mkE ubl3_ [(1,u08_)] [] false
theorem ubb9_:EnvOK Tryz.prog false ub8q_:=enk ubww_
def uyz_:Code:=uj_ Tryz.f11
theorem ubs6_:CutOK Tryz.prog false Tryz.f11.ntmps u08_ (sub uyz_ [1,1,1,0,1,0]) :=
 lok (body:=sub uyz_ [1,1,1,0,1,0,0]) (n:=2) (l:=[]) ubb9_ trivial
theorem ub6g_:uf_ Tryz.prog 11∧FunOK Tryz.prog 11 ubl2_ :=
 fnk (c:=uyz_) (l:=[(u08_,sub uyz_ [1,1,1,0,1,0])]) ubb9_ Tryz.func11 ⟨⟨by kernel_rfl,ubs6_⟩,trivial⟩
def ub6h_:FSpec:=⟨[.val ZZ4,.val ZZ4],[.val .bool],uboz_,true⟩
def ub6i_:List (Nat×FSpec):=[(22,ublq_)]
theorem ub8r_:FsOK Tryz.prog ub6i_:=⟨ubwl_,trivial⟩
def ucjy_:Env:=mkE ub6i_ [] [] true
theorem ucck_:EnvOK Tryz.prog true ucjy_:=enk ub8r_
def ucjz_:Code:=uj_ Tryz.f34
theorem ucg5_:uf_ Tryz.prog 34∧FunOK Tryz.prog 34 ub6h_ :=
 fnk (c:=ucjz_) (l:=[]) ucck_ Tryz.func34 trivial
def ucao_:FSpec:=⟨[.val (.slice ZZ4)],[.val ZZ18,.val (.int .i64)],ucb2_,true⟩
def ucap_:List (Nat×FSpec):=[(24,uyy_),(34,ub6h_)]
theorem uccl_:FsOK Tryz.prog ucap_:=⟨ubaa_,ucg5_,trivial⟩
def ubs7_:CSpec:=⟨⟨[0,5,6,7],[.val (.slice ZZ4),.own 3 (.int .i64) true,.val (.int .i64),.val (.int .i64)]⟩,[((.exit 2),⟨[5,7],[.own 3 (.int .i64) true,.val (.int .i64)]⟩)],([7]++seg 25 27),ubzl_,[]⟩
def ubs8_:CSpec:=⟨⟨[0,5,6],[.val (.slice ZZ4),.own 3 (.int .i64) true,.val (.int .i64)]⟩,[((.exit 0),⟨[5],[.own 3 (.int .i64) true]⟩)],([5,6,7]++seg 13 43),ubo0_,[]⟩
def ucm8_:Env:=mkE ucap_ [(3,ubs7_),(1,ubs8_)] [] true
theorem ubl4_:EnvOK Tryz.prog true ucm8_:=enk uccl_
def u4w_:Code:=uj_ Tryz.f12
theorem ub8s_:CutOK Tryz.prog true Tryz.f12.ntmps ubs7_ (sub u4w_ [1,1,1,0,1,0,0,1,0,0,1,1,0,0]) :=
 lok (body:=sub u4w_ [1,1,1,0,1,0,0,1,0,0,1,1,0,0,0]) (n:=4) (l:=[]) ubl4_ trivial
theorem ub8t_:CutOK Tryz.prog true Tryz.f12.ntmps ubs8_ (sub u4w_ [1,1,1,0,1,0]) :=
 lok (body:=sub u4w_ [1,1,1,0,1,0,0]) (n:=2) (l:=[(ubs7_,sub u4w_ [1,1,1,0,1,0,0,1,0,0,1,1,0,0])]) ubl4_ ⟨⟨by kernel_rfl,ub8s_⟩,trivial⟩
theorem ucj0_:uf_ Tryz.prog 12∧FunOK Tryz.prog 12 ucao_ :=
 fnk (c:=u4w_) (l:=[(ubs8_,sub u4w_ [1,1,1,0,1,0])]) ubl4_ Tryz.func12 ⟨⟨by kernel_rfl,ub8t_⟩,trivial⟩
def uzs_:FSpec:=⟨[.val (.slice .str),.val (.slice .str)],[.val .bool],um2_,true⟩
def uzt_:List (Nat×FSpec):=[]
theorem ubca_:FsOK Tryz.prog uzt_:=trivial
def umj_:CSpec:=⟨⟨[0,1,12,13],[.val (.slice .str),.val (.slice .str),.val (.int .i64),.val (.int .i64)]⟩,[((.exit 0),⟨[],[]⟩),(.ret,⟨[4],[.val .bool]⟩)],([4,5]++seg 13 13),unv_,[]⟩
def ubpf_:Env:=mkE uzt_ [(1,umj_)] [] true
theorem uum_:EnvOK Tryz.prog true ubpf_:=enk ubca_
def uje_:Code:=uj_ Tryz.f13
theorem ubad_:CutOK Tryz.prog true Tryz.f13.ntmps umj_ (sub uje_ [1,1,0,1,0]) :=
 lok (body:=sub uje_ [1,1,0,1,0,0]) (n:=2) (l:=[]) uum_ trivial
theorem ubl5_:uf_ Tryz.prog 13∧FunOK Tryz.prog 13 uzs_ :=
 fnk (c:=uje_) (l:=[(umj_,sub uje_ [1,1,0,1,0])]) uum_ Tryz.func13 ⟨⟨by kernel_rfl,ubad_⟩,trivial⟩
def u8r_:FSpec:=⟨[.val ZZ18,.val ZZ18],[.val .bool],unw_,true⟩
def u8s_:List (Nat×FSpec):=[]
theorem ubl6_:FsOK Tryz.prog u8s_:=trivial
def urs_:CSpec:=⟨⟨[0,1,12,13],[.val ZZ18,.val ZZ18,.val (.int .i64),.val (.int .i64)]⟩,[((.exit 0),⟨[],[]⟩),(.ret,⟨[4],[.val .bool]⟩)],([4,5]++seg 13 13),uts_,[]⟩
def ubz3_:Env:=mkE u8s_ [(1,urs_)] [] true
theorem u19_:EnvOK Tryz.prog true ubz3_:=enk ubl6_
def uo3_:Code:=uj_ Tryz.f14
theorem ubin_:CutOK Tryz.prog true Tryz.f14.ntmps urs_ (sub uo3_ [1,1,0,1,0]) :=
 lok (body:=sub uo3_ [1,1,0,1,0,0]) (n:=2) (l:=[]) u19_ trivial
theorem ubwx_:uf_ Tryz.prog 14∧FunOK Tryz.prog 14 u8r_ :=
 fnk (c:=uo3_) (l:=[(urs_,sub uo3_ [1,1,0,1,0])]) u19_ Tryz.func14 ⟨⟨by kernel_rfl,ubin_⟩,trivial⟩
def ucaq_:FSpec:=⟨[],[.val (.agg ZZ5)],ucmq_,true⟩
def ucar_:List (Nat×FSpec):=[]
theorem uccm_:FsOK Tryz.prog ucar_:=trivial
def ucm9_:Env:=mkE ucar_ [] [] true
theorem uce8_:EnvOK Tryz.prog true ucm9_:=enk uccm_
def ucna_:Code:=uj_ Tryz.f36
theorem ucj1_:uf_ Tryz.prog 36∧FunOK Tryz.prog 36 ucaq_ :=
 fnk (c:=ucna_) (l:=[]) uce8_ Tryz.func36 trivial
def ub2f_:FSpec:=⟨[.val .str],[.val .bool],ub5j_,true⟩
def ub2g_:List (Nat×FSpec):=[]
theorem ub6j_:FsOK Tryz.prog ub2g_:=trivial
def ubee_:CSpec:=⟨⟨[0,5,6],[.val .str,.val (.int .i64),.val (.int .i64)]⟩,[((.exit 0),⟨[],[]⟩),(.ret,⟨[2],[.val .bool]⟩)],([2,3]++seg 6 14),ub1y_,[]⟩
def ucg6_:Env:=mkE ub2g_ [(0,ubee_)] [] true
theorem ubrr_:EnvOK Tryz.prog true ucg6_:=enk ub6j_
def ubef_:Code:=uj_ Tryz.f134
theorem ub3c_:CutOK Tryz.prog true Tryz.f134.ntmps ubee_ (sub ubef_ [1,0,1,0]) :=
 lok (body:=sub ubef_ [1,0,1,0,0]) (n:=1) (l:=[]) ubrr_ trivial
theorem uce9_:uf_ Tryz.prog 134∧FunOK Tryz.prog 134 ub2f_ :=
 fnk (c:=ubef_) (l:=[(ubee_,sub ubef_ [1,0,1,0])]) ubrr_ Tryz.func134 ⟨⟨by kernel_rfl,ub3c_⟩,trivial⟩
def u4x_:FSpec:=⟨[.val .str,.val (.int .i64)],[.val .bool],ubkp_,true⟩
def ubl7_:List (Nat×FSpec):=[]
theorem ubwy_:FsOK Tryz.prog ubl7_:=trivial
def u09_:CSpec:=⟨⟨[0,7,8],[.val .str,.val (.int .i64),.val (.int .i64)]⟩,[((.exit 0),⟨[],[]⟩),(.ret,⟨[4],[.val .bool]⟩)],([4,5]++seg 8 14),ubko_,[]⟩
def ub8u_:Env:=mkE ubl7_ [(0,u09_)] [] true
theorem ubcb_:EnvOK Tryz.prog true ub8u_:=enk ubwy_
def uy0_:Code:=uj_ Tryz.f178
theorem ubs9_:CutOK Tryz.prog true Tryz.f178.ntmps u09_ (sub uy0_ [1,0,1,0]) :=
 lok (body:=sub uy0_ [1,0,1,0,0]) (n:=1) (l:=[]) ubcb_ trivial
theorem ubl8_:uf_ Tryz.prog 178∧FunOK Tryz.prog 178 u4x_ :=
 fnk (c:=uy0_) (l:=[(u09_,sub uy0_ [1,0,1,0])]) ubcb_ Tryz.func178 ⟨⟨by kernel_rfl,ubs9_⟩,trivial⟩
def ubl9_:FSpec:=⟨[],[.val (.arr 5 ZZ27)],ub5l_,true⟩
def ub2h_:List (Nat×FSpec):=[]
theorem ub6k_:FsOK Tryz.prog ub2h_:=trivial
def ucg7_:Env:=mkE ub2h_ [] [] true
theorem ub8v_:EnvOK Tryz.prog true ucg7_:=enk ub6k_
def ucg8_:Code:=uj_ Tryz.f185
theorem ub2i_:uf_ Tryz.prog 185∧FunOK Tryz.prog 185 ubl9_ :=
 fnk (c:=ucg8_) (l:=[]) ub8v_ Tryz.func185 trivial
def ub2j_:FSpec:=⟨[.val .str],[.val (.int .i64)],ucet_,true⟩
def ub2k_:List (Nat×FSpec):=[(185,ubl9_)]
theorem ub6l_:FsOK Tryz.prog ub2k_:=⟨ub2i_,trivial⟩
def ubeg_:CSpec:=⟨⟨[0,5,6],[.val .str,.val (.arr 5 ZZ27),.val (.int .i64)]⟩,[((.exit 0),⟨[],[]⟩),(.ret,⟨[2],[.val (.int .i64)]⟩)],([2,3,4]++seg 6 10),ub1z_,[]⟩
def ucg9_:Env:=mkE ub2k_ [(0,ubeg_)] [] true
theorem ubrs_:EnvOK Tryz.prog true ucg9_:=enk ub6l_
def ubeh_:Code:=uj_ Tryz.f184
theorem ub3d_:CutOK Tryz.prog true Tryz.f184.ntmps ubeg_ (sub ubeh_ [1,0,1,0]) :=
 lok (body:=sub ubeh_ [1,0,1,0,0]) (n:=1) (l:=[]) ubrs_ trivial
theorem ucfa_:uf_ Tryz.prog 184∧FunOK Tryz.prog 184 ub2j_ :=
 fnk (c:=ubeh_) (l:=[(ubeg_,sub ubeh_ [1,0,1,0])]) ubrs_ Tryz.func184 ⟨⟨by kernel_rfl,ub3d_⟩,trivial⟩
def ubta_:FSpec:=⟨[.val .str],[.val ZZ27,.val (.int .i64)],ucb3_,true⟩
def ub6m_:List (Nat×FSpec):=[(184,ub2j_),(185,ubl9_)]
theorem ub8w_:FsOK Tryz.prog ub6m_:=⟨ucfa_,ub2i_,trivial⟩
def ucj2_:Env:=mkE ub6m_ [] [] true
theorem uccn_:EnvOK Tryz.prog true ucj2_:=enk ub8w_
def ucj3_:Code:=uj_ Tryz.f138
theorem ub6n_:uf_ Tryz.prog 138∧FunOK Tryz.prog 138 ubta_ :=
 fnk (c:=ucj3_) (l:=[]) uccn_ Tryz.func138 trivial
def ub6o_:FSpec:=⟨[.val (.agg ZZ17)],[.val .bool],ucim_,true⟩
def ub6p_:List (Nat×FSpec):=[]
theorem ub8x_:FsOK Tryz.prog ub6p_:=trivial
def ubma_:CSpec:=⟨⟨[15,16,17],[.own 9 .str false,.val (.int .i64),.val (.int .i64)]⟩,[((.exit 0),⟨[],[]⟩),(.ret,⟨[2],[.val .bool]⟩)],([2,4]++seg 17 8),ub5m_,[]⟩
def ubmb_:CSpec:=⟨⟨[26,27,28],[.val (.slice ZZ12),.val (.int .i64),.val (.int .i64)]⟩,[((.exit 2),⟨[],[]⟩),(.ret,⟨[2],[.val .bool]⟩)],([2,6]++seg 28 15),ub5n_,[]⟩
def ucj4_:Env:=mkE ub6p_ [(0,ubma_),(3,ubmb_)] [] true
theorem ubei_:EnvOK Tryz.prog true ucj4_:=enk ub8x_
def ux6_:Code:=uj_ Tryz.f139
theorem ub6q_:CutOK Tryz.prog true Tryz.f139.ntmps ubma_ (sub ux6_ [1,0,1,0]) :=
 lok (body:=sub ux6_ [1,0,1,0,0]) (n:=1) (l:=[]) ubei_ trivial
theorem ub6r_:CutOK Tryz.prog true Tryz.f139.ntmps ubmb_ (sub ux6_ [1,1,0,1,0]) :=
 lok (body:=sub ux6_ [1,1,0,1,0,0]) (n:=4) (l:=[]) ubei_ trivial
theorem ucha_:uf_ Tryz.prog 139∧FunOK Tryz.prog 139 ub6o_ :=
 fnk (c:=ux6_) (l:=[(ubma_,sub ux6_ [1,0,1,0]),(ubmb_,sub ux6_ [1,1,0,1,0])]) ubei_ Tryz.func139 ⟨⟨by kernel_rfl,ub6q_⟩,⟨by kernel_rfl,ub6r_⟩,trivial⟩
def u4y_:FSpec:=⟨[.val .str],[.val (.slice .str)],u74_,true⟩
def ubmc_:List (Nat×FSpec):=[(186,u4p_)]
theorem ubwz_:FsOK Tryz.prog ubmc_:=⟨ubln_,trivial⟩
def ub8y_:Env:=mkE ubmc_ [] [] true
theorem ubz4_:EnvOK Tryz.prog true ub8y_:=enk ubwz_
def ub8z_:Code:=uj_ Tryz.f141
theorem ubmd_:uf_ Tryz.prog 141∧FunOK Tryz.prog 141 u4y_ :=
 fnk (c:=ub8z_) (l:=[]) ubz4_ Tryz.func141 trivial
def ubhb_:FSpec:=⟨[.val (.slice .str),.val .bool],[.val .bool],ubdy_,true⟩
def ubhc_:List (Nat×FSpec):=[]
theorem ubtb_:FsOK Tryz.prog ubhc_:=trivial
def ux7_:CSpec:=⟨⟨[1,7,8,9],[.val .bool,.val (.slice .str),.val (.int .i64),.val (.int .i64)]⟩,[((.exit 0),⟨[],[]⟩),(.ret,⟨[4],[.val .bool]⟩)],([4,6]++seg 9 18),ubge_,[]⟩
def ub6s_:Env:=mkE ubhc_ [(0,ux7_)] [] true
theorem u8t_:EnvOK Tryz.prog true ub6s_:=enk ubtb_
def uun_:Code:=uj_ Tryz.f140
theorem ubpg_:CutOK Tryz.prog true Tryz.f140.ntmps ux7_ (sub uun_ [1,0,1,0]) :=
 lok (body:=sub uun_ [1,0,1,0,0]) (n:=1) (l:=[]) u8t_ trivial
theorem ub3e_:uf_ Tryz.prog 140∧FunOK Tryz.prog 140 ubhb_ :=
 fnk (c:=uun_) (l:=[(ux7_,sub uun_ [1,0,1,0])]) u8t_ Tryz.func140 ⟨⟨by kernel_rfl,ubpg_⟩,trivial⟩
def u4z_:FSpec:=⟨[.val (.int .u8),.val .bool],[.val .bool],ubkq_,true⟩
def ubme_:List (Nat×FSpec):=[]
theorem ubw0_:FsOK Tryz.prog ubme_:=trivial
def ub80_:Env:=mkE ubme_ [] [] true
theorem ubz5_:EnvOK Tryz.prog true ub80_:=enk ubw0_
def ub81_:Code:=uj_ Tryz.f241
theorem ubmf_:uf_ Tryz.prog 241∧FunOK Tryz.prog 241 u4z_ :=
 fnk (c:=ub81_) (l:=[]) ubz5_ Tryz.func241 trivial
def u2a_:FSpec:=⟨[.val .str],[.val .bool],ubbj_,true⟩
def u2b_:List (Nat×FSpec):=[(241,u4z_)]
theorem ubej_:FsOK Tryz.prog u2b_:=⟨ubmf_,trivial⟩
def un4_:CSpec:=⟨⟨[0,5,6],[.val .str,.val (.int .i64),.val (.int .i64)]⟩,[((.exit 0),⟨[],[]⟩),(.ret,⟨[2],[.val .bool]⟩)],([2,3]++seg 6 11),u1s_,[]⟩
def ubtc_:Env:=mkE u2b_ [(0,un4_)] [] true
theorem uwu_:EnvOK Tryz.prog true ubtc_:=enk ubej_
def uk5_:Code:=uj_ Tryz.f188
theorem ubcc_:CutOK Tryz.prog true Tryz.f188.ntmps un4_ (sub uk5_ [1,0,1,0]) :=
 lok (body:=sub uk5_ [1,0,1,0,0]) (n:=1) (l:=[]) uwu_ trivial
theorem ubph_:uf_ Tryz.prog 188∧FunOK Tryz.prog 188 u2a_ :=
 fnk (c:=uk5_) (l:=[(un4_,sub uk5_ [1,0,1,0])]) uwu_ Tryz.func188 ⟨⟨by kernel_rfl,ubcc_⟩,trivial⟩
def uwv_:FSpec:=⟨[.val (.slice ZZ12)],[.val (.int .i64)],u3x_,true⟩
def uww_:List (Nat×FSpec):=[(188,u2a_)]
theorem ubae_:FsOK Tryz.prog uww_:=⟨ubph_,trivial⟩
def uk6_:CSpec:=⟨⟨[0,5,6,7],[.val (.slice ZZ12),.val (.slice ZZ12),.val (.int .i64),.val (.int .i64)]⟩,[((.exit 0),⟨[],[]⟩),(.ret,⟨[2],[.val (.int .i64)]⟩)],([2,3,4]++seg 7 29),uwa_,[]⟩
def ubmg_:Env:=mkE uww_ [(0,uk6_)] [] true
theorem uso_:EnvOK Tryz.prog true ubmg_:=enk ubae_
def uim_:Code:=uj_ Tryz.f143
theorem u61_:CutOK Tryz.prog true Tryz.f143.ntmps uk6_ (sub uim_ [1,0,1,0]) :=
 lok (body:=sub uim_ [1,0,1,0,0]) (n:=1) (l:=[]) uso_ trivial
theorem ubio_:uf_ Tryz.prog 143∧FunOK Tryz.prog 143 uwv_ :=
 fnk (c:=uim_) (l:=[(uk6_,sub uim_ [1,0,1,0])]) uso_ Tryz.func143 ⟨⟨by kernel_rfl,u61_⟩,trivial⟩
def ubrt_:FSpec:=⟨[.val .str],[.val .bool],ubsg_,true⟩
def ubru_:List (Nat×FSpec):=[]
theorem ubz6_:FsOK Tryz.prog ubru_:=trivial
def u40_:CSpec:=⟨⟨[0,5,6],[.val .str,.val (.int .i64),.val (.int .i64)]⟩,[((.exit 0),⟨[],[]⟩),(.ret,⟨[2],[.val .bool]⟩)],([2,3]++seg 6 14),ubra_,[]⟩
def ucco_:Env:=mkE ubru_ [(0,u40_)] [] true
theorem ubhd_:EnvOK Tryz.prog true ucco_:=enk ubz6_
def u28_:Code:=uj_ Tryz.f144
theorem ubw1_:CutOK Tryz.prog true Tryz.f144.ntmps u40_ (sub u28_ [1,0,1,0]) :=
 lok (body:=sub u28_ [1,0,1,0,0]) (n:=1) (l:=[]) ubhd_ trivial
theorem ub82_:uf_ Tryz.prog 144∧FunOK Tryz.prog 144 ubrt_ :=
 fnk (c:=u28_) (l:=[(u40_,sub u28_ [1,0,1,0])]) ubhd_ Tryz.func144 ⟨⟨by kernel_rfl,ubw1_⟩,trivial⟩
def u8u_:FSpec:=⟨[.val (.agg ZZ17)],[.val (.int .i64)],ubvs_,true⟩
def ub2l_:List (Nat×FSpec):=[(138,ubta_),(139,ub6o_),(140,ubhb_),(141,u4y_),(142,ue9_),(143,uwv_),(144,ubrt_)]
theorem ub6t_:FsOK Tryz.prog ub2l_:=⟨ub6n_,ucha_,ub3e_,ubmd_,uhb_,ubio_,ub82_,trivial⟩
def ubek_:CSpec:=⟨⟨[75,76,77],[.own 9 .str false,.val (.int .i64),.val (.int .i64)]⟩,[((.exit 1),⟨[],[]⟩),(.ret,⟨[2],[.val (.int .i64)]⟩)],[2,7,77,78,79,80,81,82,83],ub10_,[]⟩
def ubaf_:CSpec:=⟨⟨[85,86,87],[.val (.slice ZZ12),.val (.int .i64),.val (.int .i64)]⟩,[((.exit 3),⟨[],[]⟩),(.ret,⟨[2],[.val (.int .i64)]⟩)],([2,9]++seg 87 8),ubvr_,[]⟩
def uchb_:Env:=mkE ub2l_ [(7,ubek_),(10,ubaf_)] [] true
theorem ubag_:EnvOK Tryz.prog true uchb_:=enk ub6t_
def urt_:Code:=uj_ Tryz.f109
theorem ub3f_:CutOK Tryz.prog true Tryz.f109.ntmps ubek_ (sub urt_ [1,1,1,1,1,0,1,0]) :=
 lok (body:=sub urt_ [1,1,1,1,1,0,1,0,0]) (n:=8) (l:=[]) ubag_ trivial
theorem ubz7_:CutOK Tryz.prog true Tryz.f109.ntmps ubaf_ (sub urt_ [1,1,1,1,1,1,0,1,0]) :=
 lok (body:=sub urt_ [1,1,1,1,1,1,0,1,0,0]) (n:=11) (l:=[]) ubag_ trivial
theorem ubmh_:uf_ Tryz.prog 109∧FunOK Tryz.prog 109 u8u_ :=
 fnk (c:=urt_) (l:=[(ubek_,sub urt_ [1,1,1,1,1,0,1,0]),(ubaf_,sub urt_ [1,1,1,1,1,1,0,1,0])]) ubag_ Tryz.func109 ⟨⟨by kernel_rfl,ub3f_⟩,⟨by kernel_rfl,ubz7_⟩,trivial⟩
def ubz8_:FSpec:=⟨[.val (.int .u8)],[.val (.int .i64)],ucgr_,true⟩
def ucas_:List (Nat×FSpec):=[]
theorem uccp_:FsOK Tryz.prog ucas_:=trivial
def ucnb_:Env:=mkE ucas_ [] [] true
theorem ucfb_:EnvOK Tryz.prog true ucnb_:=enk uccp_
def ucnc_:Code:=uj_ Tryz.f282
theorem ucat_:uf_ Tryz.prog 282∧FunOK Tryz.prog 282 ubz8_ :=
 fnk (c:=ucnc_) (l:=[]) ucfb_ Tryz.func282 trivial
def ub2m_:FSpec:=⟨[.val .str,.val (.int .i64)],[.val .bool],ucew_,true⟩
def ub2n_:List (Nat×FSpec):=[(282,ubz8_)]
theorem ub6u_:FsOK Tryz.prog ub2n_:=⟨ucat_,trivial⟩
def ubel_:CSpec:=⟨⟨[0,7,8],[.val .str,.val (.int .i64),.val (.int .i64)]⟩,[((.exit 0),⟨[],[]⟩),(.ret,⟨[4],[.val .bool]⟩)],([4,5]++seg 8 21),ub11_,[]⟩
def uchc_:Env:=mkE ub2n_ [(0,ubel_)] [] true
theorem ubrv_:EnvOK Tryz.prog true uchc_:=enk ub6u_
def ubem_:Code:=uj_ Tryz.f232
theorem ub3g_:CutOK Tryz.prog true Tryz.f232.ntmps ubel_ (sub ubem_ [1,0,1,0]) :=
 lok (body:=sub ubem_ [1,0,1,0,0]) (n:=1) (l:=[]) ubrv_ trivial
theorem ucfc_:uf_ Tryz.prog 232∧FunOK Tryz.prog 232 ub2m_ :=
 fnk (c:=ubem_) (l:=[(ubel_,sub ubem_ [1,0,1,0])]) ubrv_ Tryz.func232 ⟨⟨by kernel_rfl,ub3g_⟩,trivial⟩
def u41_:FSpec:=⟨[.val (.slice ZZ12)],[.val (.int .i64)],ubgf_,true⟩
def u42_:List (Nat×FSpec):=[(232,ub2m_)]
theorem ubip_:FsOK Tryz.prog u42_:=⟨ucfc_,trivial⟩
def up1_:CSpec:=⟨⟨[5,18],[.val (.int .i64),.val .bool]⟩,[(.normal,⟨[5],[.val (.int .i64)]⟩)],[5],u3y_,[]⟩
def up2_:CSpec:=⟨⟨[0,9,10,11],[.val (.slice ZZ12),.val (.slice ZZ12),.val (.int .i64),.val (.int .i64)]⟩,[((.exit 0),⟨[],[]⟩),(.ret,⟨[2],[.val (.int .i64)]⟩)],([2,3,4,5]++seg 11 38),u3z_,[]⟩
def ubw2_:Env:=mkE u42_ [(3,up1_),(1,up2_)] [] true
theorem un5_:EnvOK Tryz.prog true ubw2_:=enk ubip_
def ucm_:Code:=uj_ Tryz.f179
theorem uben_:CutOK Tryz.prog true Tryz.f179.ntmps up1_ (sub ucm_ [1,1,0,1,0,0,1,1,0,0,1,1,0,1]) :=
 brk (c:=umd_ (sub ucm_ [1,1,0,1,0,0,1,1,0,0,1,1,0,1])) (x:=sub ucm_ [1,1,0,1,0,0,1,1,0,0,1,1,0,1,0]) (y:=sub ucm_ [1,1,0,1,0,0,1,1,0,0,1,1,0,1,1]) (n:=3) (lx:=[]) (ly:=[]) un5_ trivial trivial
theorem ubeo_:CutOK Tryz.prog true Tryz.f179.ntmps up2_ (sub ucm_ [1,1,0,1,0]) :=
 lok (body:=sub ucm_ [1,1,0,1,0,0]) (n:=2) (l:=[(up1_,sub ucm_ [1,1,0,1,0,0,1,1,0,0,1,1,0,1])]) un5_ ⟨⟨by kernel_rfl,uben_⟩,trivial⟩
theorem ubtd_:uf_ Tryz.prog 179∧FunOK Tryz.prog 179 u41_ :=
 fnk (c:=ucm_) (l:=[(up2_,sub ucm_ [1,1,0,1,0])]) un5_ Tryz.func179 ⟨⟨by kernel_rfl,ubeo_⟩,trivial⟩
def u43_:FSpec:=⟨[.val (.agg ZZ36),.val (.slice .str)],[.val (.int .i64)],ubgg_,true⟩
def u44_:List (Nat×FSpec):=[(178,u4x_)]
theorem ubiq_:FsOK Tryz.prog u44_:=⟨ubl8_,trivial⟩
def up3_:CSpec:=⟨⟨[1,2,10,11,12],[.val (.slice .str),.box (.val ZZ36),.val (.slice .str),.val (.int .i64),.val (.int .i64)]⟩,[((.exit 0),⟨[],[]⟩),(.ret,⟨[4],[.val (.int .i64)]⟩)],([4,5,6]++seg 12 27),u30_,[]⟩
def ubw3_:Env:=mkE u44_ [(1,up3_)] [] true
theorem uzu_:EnvOK Tryz.prog true ubw3_:=enk ubiq_
def una_:Code:=uj_ Tryz.f181
theorem ubep_:CutOK Tryz.prog true Tryz.f181.ntmps up3_ (sub una_ [1,1,0,1,0]) :=
 lok (body:=sub una_ [1,1,0,1,0,0]) (n:=2) (l:=[]) uzu_ trivial
theorem ubte_:uf_ Tryz.prog 181∧FunOK Tryz.prog 181 u43_ :=
 fnk (c:=una_) (l:=[(up3_,sub una_ [1,1,0,1,0])]) uzu_ Tryz.func181 ⟨⟨by kernel_rfl,ubep_⟩,trivial⟩
def uuo_:FSpec:=⟨[.val (.agg ZZ36),.val ZZ2],[.val (.int .i64)],u1t_,true⟩
def uup_:List (Nat×FSpec):=[(109,u8u_),(178,u4x_),(179,u41_),(181,u43_)]
theorem u62_:FsOK Tryz.prog uup_:=⟨ubmh_,ubl8_,ubtd_,ubte_,trivial⟩
def uj6_:CSpec:=⟨⟨[3,29,30],[.box (.val ZZ33),.val (.int .i64),.val (.int .i64)]⟩,[((.exit 0),⟨[3],[.box (.val ZZ33)]⟩),(.ret,⟨[4],[.val (.int .i64)]⟩)],([4,7]++seg 30 16),utt_,[]⟩
def ubir_:Env:=mkE uup_ [(3,uj6_)] [] true
theorem uq6_:EnvOK Tryz.prog true ubir_:=enk u62_
def uhj_:Code:=uj_ Tryz.f135
theorem u45_:CutOK Tryz.prog true Tryz.f135.ntmps uj6_ (sub uhj_ [1,1,1,1,0,1,0]) :=
 lok (body:=sub uhj_ [1,1,1,1,0,1,0,0]) (n:=4) (l:=[]) uq6_ trivial
theorem ubeq_:uf_ Tryz.prog 135∧FunOK Tryz.prog 135 uuo_ :=
 fnk (c:=uhj_) (l:=[(uj6_,sub uhj_ [1,1,1,1,0,1,0])]) uq6_ Tryz.func135 ⟨⟨by kernel_rfl,u45_⟩,trivial⟩
def ubhe_:FSpec:=⟨[.val (.agg ZZ6),.val (.agg ZZ6)],[.val (.int .i64)],ubvt_,true⟩
def ubhf_:List (Nat×FSpec):=[(30,usn_),(31,ufa_),(46,uda_)]
theorem ubtf_:FsOK Tryz.prog ubhf_:=⟨uzk_,ug6_,uer_,trivial⟩
def ub6v_:Env:=mkE ubhf_ [] [] true
theorem ubw4_:EnvOK Tryz.prog true ub6v_:=enk ubtf_
def ub6w_:Code:=uj_ Tryz.f182
theorem ub3h_:uf_ Tryz.prog 182∧FunOK Tryz.prog 182 ubhe_ :=
 fnk (c:=ub6w_) (l:=[]) ubw4_ Tryz.func182 trivial
def u46_:FSpec:=⟨[.val (.agg ZZ36),.val ZZ35],[.val (.int .i64)],ubgh_,true⟩
def u47_:List (Nat×FSpec):=[(182,ubhe_)]
theorem ubis_:FsOK Tryz.prog u47_:=⟨ub3h_,trivial⟩
def up4_:CSpec:=⟨⟨[1,2,7,8,9],[.val ZZ35,.box (.val ZZ36),.val ZZ35,.val (.int .i64),.val (.int .i64)]⟩,[((.exit 0),⟨[],[]⟩),(.ret,⟨[4],[.val (.int .i64)]⟩)],([4,5,6]++seg 9 54),u31_,[]⟩
def ubw5_:Env:=mkE u47_ [(0,up4_)] [] true
theorem uzv_:EnvOK Tryz.prog true ubw5_:=enk ubis_
def unb_:Code:=uj_ Tryz.f136
theorem uber_:CutOK Tryz.prog true Tryz.f136.ntmps up4_ (sub unb_ [1,0,1,0]) :=
 lok (body:=sub unb_ [1,0,1,0,0]) (n:=1) (l:=[]) uzv_ trivial
theorem ubtg_:uf_ Tryz.prog 136∧FunOK Tryz.prog 136 u46_ :=
 fnk (c:=unb_) (l:=[(up4_,sub unb_ [1,0,1,0])]) uzv_ Tryz.func136 ⟨⟨by kernel_rfl,uber_⟩,trivial⟩
def u8v_:FSpec:=⟨[.tr (.pr (.val .bool) (.omap .str .bool)),.val (.agg ZZ13)],[.val (.int .i64)],ubkr_,true⟩
def u8w_:List (Nat×FSpec):=[(134,ub2f_),(135,uuo_),(136,u46_)]
theorem ubmi_:FsOK Tryz.prog u8w_:=⟨uce9_,ubeq_,ubtg_,trivial⟩
def uru_:CSpec:=⟨⟨[2,3,36,37,38],[.box (.pr (.val .bool) (.omap .str .bool)),.box (.val ZZ13),.val (.slice ZZ2),.val (.int .i64),.val (.int .i64)]⟩,[((.exit 1),⟨[2,3],[.box (.pr (.val .bool) (.omap .str .bool)),.box (.val ZZ13)]⟩),(.ret,⟨[4],[.val (.int .i64)]⟩)],([4,5,6,7]++seg 38 35),u75_,[]⟩
def ubz9_:Env:=mkE u8w_ [(2,uru_)] [43,45,79,82] true
theorem u2c_:EnvOK Tryz.prog true ubz9_:=enk ubmi_
def uo4_:Code:=uj_ Tryz.f104
theorem ubit_:CutOK Tryz.prog true Tryz.f104.ntmps uru_ (sub uo4_ [1,1,0,1,0]) :=
 lok (body:=sub uo4_ [1,1,0,1,0,0]) (n:=3) (l:=[]) u2c_ trivial
theorem ubw6_:uf_ Tryz.prog 104∧FunOK Tryz.prog 104 u8v_ :=
 fnk (c:=uo4_) (l:=[(uru_,sub uo4_ [1,1,0,1,0])]) u2c_ Tryz.func104 ⟨⟨by kernel_rfl,ubit_⟩,trivial⟩
def ubes_:FSpec:=⟨[.val (.agg ZZ13)],[.val (.int .i64)],ub4q_,true⟩
def ub6x_:List (Nat×FSpec):=[(104,u8v_)]
theorem ub83_:FsOK Tryz.prog ub6x_:=⟨ubw6_,trivial⟩
def ucj5_:Env:=mkE ub6x_ [] [4] true
theorem uccq_:EnvOK Tryz.prog true ucj5_:=enk ub83_
def ucj6_:Code:=uj_ Tryz.f80
theorem ubth_:uf_ Tryz.prog 80∧FunOK Tryz.prog 80 ubes_ :=
 fnk (c:=ucj6_) (l:=[]) uccq_ Tryz.func80 trivial
def u48_:FSpec:=⟨[.val .str],[.val .bool],u76_,true⟩
def ubmj_:List (Nat×FSpec):=[]
theorem ubw7_:FsOK Tryz.prog ubmj_:=trivial
def u1a_:CSpec:=⟨⟨[0,6,7],[.val .str,.val (.int .i64),.val (.int .i64)]⟩,[((.exit 0),⟨[],[]⟩),(.ret,⟨[2],[.val .bool]⟩)],([2,3,4]++seg 7 42),ubks_,[]⟩
def ub84_:Env:=mkE ubmj_ [(0,u1a_)] [] true
theorem ubcd_:EnvOK Tryz.prog true ub84_:=enk ubw7_
def uy1_:Code:=uj_ Tryz.f149
theorem ubti_:CutOK Tryz.prog true Tryz.f149.ntmps u1a_ (sub uy1_ [1,0,1,0]) :=
 lok (body:=sub uy1_ [1,0,1,0,0]) (n:=1) (l:=[]) ubcd_ trivial
theorem ubmk_:uf_ Tryz.prog 149∧FunOK Tryz.prog 149 u48_ :=
 fnk (c:=uy1_) (l:=[(u1a_,sub uy1_ [1,0,1,0])]) ubcd_ Tryz.func149 ⟨⟨by kernel_rfl,ubti_⟩,trivial⟩
def uuq_:FSpec:=⟨[.val (.agg ZZ3)],[.val (.int .i64)],u1u_,true⟩
def uur_:List (Nat×FSpec):=[(149,u48_)]
theorem u63_:FsOK Tryz.prog uur_:=⟨ubmk_,trivial⟩
def uj7_:CSpec:=⟨⟨[1,10,11,12],[.box (.val ZZ3),.val (.slice .str),.val (.int .i64),.val (.int .i64)]⟩,[((.exit 0),⟨[],[]⟩),(.ret,⟨[2],[.val (.int .i64)]⟩)],([2,3,4]++seg 12 28),utu_,[]⟩
def ubiu_:Env:=mkE uur_ [(1,uj7_)] [] true
theorem uq7_:EnvOK Tryz.prog true ubiu_:=enk u63_
def uhk_:Code:=uj_ Tryz.f150
theorem u49_:CutOK Tryz.prog true Tryz.f150.ntmps uj7_ (sub uhk_ [1,1,0,1,0]) :=
 lok (body:=sub uhk_ [1,1,0,1,0,0]) (n:=2) (l:=[]) uq7_ trivial
theorem ubet_:uf_ Tryz.prog 150∧FunOK Tryz.prog 150 uuq_ :=
 fnk (c:=uhk_) (l:=[(uj7_,sub uhk_ [1,1,0,1,0])]) uq7_ Tryz.func150 ⟨⟨by kernel_rfl,u49_⟩,trivial⟩
def u8x_:FSpec:=⟨[],[.val (.arr 6 (.map (.int .u8) (.int .i64)))],ubkt_,true⟩
def u8y_:List (Nat×FSpec):=[]
theorem ubml_:FsOK Tryz.prog u8y_:=trivial
def ub0a_:Env:=mkE u8y_ [] [] true
theorem ubpi_:EnvOK Tryz.prog true ub0a_:=enk ubml_
def ub0b_:Code:=uj_ Tryz.f173
theorem ubw8_:uf_ Tryz.prog 173∧FunOK Tryz.prog 173 u8x_ :=
 fnk (c:=ub0b_) (l:=[]) ubpi_ Tryz.func173 trivial
def u1b_:FSpec:=⟨[.val .str],[.val (.int .i64),.val (.int .i64)],ubd1_,true⟩
def ubhg_:List (Nat×FSpec):=[(173,u8x_)]
theorem ubtj_:FsOK Tryz.prog ubhg_:=⟨ubw8_,trivial⟩
def ux8_:CSpec:=⟨⟨[0,5,16,17],[.val .str,.box (.val (.arr 6 (.int .i64))),.val (.arr 6 (.map (.int .u8) (.int .i64))),.val (.int .i64)]⟩,[((.exit 0),⟨[5],[.box (.val (.arr 6 (.int .i64)))]⟩),(.ret,⟨[2,3],[.val (.int .i64),.val (.int .i64)]⟩)],([2,3,6,7,8,9]++seg 17 18),ubgi_,[]⟩
def ub6y_:Env:=mkE ubhg_ [(1,ux8_)] [] true
theorem u8z_:EnvOK Tryz.prog true ub6y_:=enk ubtj_
def uus_:Code:=uj_ Tryz.f124
theorem ubpj_:CutOK Tryz.prog true Tryz.f124.ntmps ux8_ (sub uus_ [1,1,1,1,0,1,0]) :=
 lok (body:=sub uus_ [1,1,1,1,0,1,0,0]) (n:=2) (l:=[]) u8z_ trivial
theorem ubhh_:uf_ Tryz.prog 124∧FunOK Tryz.prog 124 u1b_ :=
 fnk (c:=uus_) (l:=[(ux8_,sub uus_ [1,1,1,1,0,1,0])]) u8z_ Tryz.func124 ⟨⟨by kernel_rfl,ubpj_⟩,trivial⟩
def ubmm_:FSpec:=⟨[.val .str],[.val .str],ubku_,true⟩
def ub2o_:List (Nat×FSpec):=[]
theorem ub6z_:FsOK Tryz.prog ub2o_:=trivial
def ubeu_:CSpec:=⟨⟨[3,9,10],[.own 5 (.int .u8) true,.val (.int .i64),.val (.int .i64)]⟩,[((.exit 0),⟨[3],[.own 5 (.int .u8) true]⟩)],([4,5]++seg 10 18),ub12_,[(8,3)]⟩
def uchd_:Env:=mkE ub2o_ [(0,ubeu_)] [7] true
theorem ubrw_:EnvOK Tryz.prog true uchd_:=enk ub6z_
def ubev_:Code:=uj_ Tryz.f147
theorem ub3i_:CutOK Tryz.prog true Tryz.f147.ntmps ubeu_ (sub ubev_ [1,1,0,1,0]) :=
 lok (body:=sub ubev_ [1,1,0,1,0,0]) (n:=1) (l:=[]) ubrw_ trivial
theorem ub2p_:uf_ Tryz.prog 147∧FunOK Tryz.prog 147 ubmm_ :=
 fnk (c:=ubev_) (l:=[(ubeu_,sub ubev_ [1,1,0,1,0])]) ubrw_ Tryz.func147 ⟨⟨by kernel_rfl,ub3i_⟩,trivial⟩
def uf7_:FSpec:=⟨[.box (.val ZZ24),.val (.int .i64)],[],ug8_,true⟩
def u80_:List (Nat×FSpec):=[]
theorem ubmn_:FsOK Tryz.prog u80_:=trivial
def ub0c_:Env:=mkE u80_ [] [] true
theorem ubpk_:EnvOK Tryz.prog true ub0c_:=enk ubmn_
def ub0d_:Code:=uj_ Tryz.f238
theorem uin_:uf_ Tryz.prog 238∧FunOK Tryz.prog 238 uf7_ :=
 fnk (c:=ub0d_) (l:=[]) ubpk_ Tryz.func238 trivial
def uio_:FSpec:=⟨[.val (.ptr (.agg ZZ24))],[.val (.int .u8)],ufm_,true⟩
def u81_:List (Nat×FSpec):=[]
theorem ubmo_:FsOK Tryz.prog u81_:=trivial
def ub0e_:Env:=mkE u81_ [] [] true
theorem ubpl_:EnvOK Tryz.prog true ub0e_:=enk ubmo_
def ub0f_:Code:=uj_ Tryz.f237
theorem unc_:uf_ Tryz.prog 237∧FunOK Tryz.prog 237 uio_ :=
 fnk (c:=ub0f_) (l:=[]) ubpl_ Tryz.func237 trivial
def u5a_:FSpec:=⟨[.val (.int .u8)],[.val .bool],ubkv_,true⟩
def ubmp_:List (Nat×FSpec):=[]
theorem ubw9_:FsOK Tryz.prog ubmp_:=trivial
def ub85_:Env:=mkE ubmp_ [] [] true
theorem ub0g_:EnvOK Tryz.prog true ub85_:=enk ubw9_
def ub86_:Code:=uj_ Tryz.f190
theorem ubmq_:uf_ Tryz.prog 190∧FunOK Tryz.prog 190 u5a_ :=
 fnk (c:=ub86_) (l:=[]) ub0g_ Tryz.func190 trivial
def u82_:FSpec:=⟨[.box (.val ZZ24),.val .bool],[.val .str],ubkw_,true⟩
def u83_:List (Nat×FSpec):=[(147,ubmm_),(190,u5a_),(237,uio_),(238,uf7_)]
theorem ubmr_:FsOK Tryz.prog u83_:=⟨ub2p_,ubmq_,unc_,uin_,trivial⟩
def urv_:CSpec:=⟨⟨[0,7],[.box (.val ZZ24),.val (.int .i64)]⟩,[((.exit 0),⟨[0],[.box (.val ZZ24)]⟩),(.ret,⟨[0,4],[.box (.val ZZ24),.val .str]⟩)],([4,5]++seg 7 30),u77_,[]⟩
def urw_:CSpec:=⟨⟨[0],[.box (.val ZZ24)]⟩,[((.exit 2),⟨[0],[.box (.val ZZ24)]⟩)],(seg 53 29),u78_,[]⟩
def urx_:CSpec:=⟨⟨[0,45],[.box (.val ZZ24),.val .bool]⟩,[(.normal,⟨[0],[.box (.val ZZ24)]⟩)],(seg 46 36),u79_,[]⟩
def ub0h_:Env:=mkE u83_ [(0,urv_),(4,urw_),(3,urx_)] [] true
theorem ujf_:EnvOK Tryz.prog true ub0h_:=enk ubmr_
def ubl_:Code:=uj_ Tryz.f235
theorem ubiv_:CutOK Tryz.prog true Tryz.f235.ntmps urv_ (sub ubl_ [1,0,1,0]) :=
 lok (body:=sub ubl_ [1,0,1,0,0]) (n:=1) (l:=[]) ujf_ trivial
theorem ubiw_:CutOK Tryz.prog true Tryz.f235.ntmps urw_ (sub ubl_ [1,1,1,0,1,1,0]) :=
 lok (body:=sub ubl_ [1,1,1,0,1,1,0,0]) (n:=5) (l:=[]) ujf_ trivial
theorem ubix_:CutOK Tryz.prog true Tryz.f235.ntmps urx_ (sub ubl_ [1,1,1,0,1]) :=
 brk (c:=umd_ (sub ubl_ [1,1,1,0,1])) (x:=sub ubl_ [1,1,1,0,1,0]) (y:=sub ubl_ [1,1,1,0,1,1]) (n:=3) (lx:=[]) (ly:=[(urw_,sub ubl_ [1,1,1,0,1,1,0])]) ujf_ trivial ⟨⟨by kernel_rfl,ubiw_⟩,trivial⟩
theorem ubxa_:uf_ Tryz.prog 235∧FunOK Tryz.prog 235 u82_ :=
 fnk (c:=ubl_) (l:=[(urv_,sub ubl_ [1,0,1,0]),(urx_,sub ubl_ [1,1,1,0,1])]) ujf_ Tryz.func235 ⟨⟨by kernel_rfl,ubiv_⟩,⟨by kernel_rfl,ubix_⟩,trivial⟩
def u5b_:FSpec:=⟨[.box (.val ZZ24)],[.val (.int .u8),.val .bool],ubgj_,true⟩
def u5c_:List (Nat×FSpec):=[(142,ue9_),(238,uf7_),(282,ubz8_)]
theorem ubiy_:FsOK Tryz.prog u5c_:=⟨uhb_,uin_,ucat_,trivial⟩
def up5_:CSpec:=⟨⟨[0,6,7,63],[.box (.val ZZ24),.val (.int .i64),.val (.int .i64),.val .bool]⟩,[(.normal,⟨[0,7],[.box (.val ZZ24),.val (.int .i64)]⟩)],([7]++seg 64 12),u32_,[]⟩
def up6_:CSpec:=⟨⟨[0,5,6],[.box (.val ZZ24),.val (.int .i64),.val (.int .i64)]⟩,[((.exit 0),⟨[0,5],[.box (.val ZZ24),.val (.int .i64)]⟩),(.ret,⟨[0,2,3],[.box (.val ZZ24),.val (.int .u8),.val .bool]⟩)],([2,3,5,6,7]++seg 48 42),u33_,[]⟩
def ubxb_:Env:=mkE u5c_ [(5,up5_),(3,up6_)] [] true
theorem un6_:EnvOK Tryz.prog true ubxb_:=enk ubiy_
def ucn_:Code:=uj_ Tryz.f289
theorem ubew_:CutOK Tryz.prog true Tryz.f289.ntmps up5_ (sub ucn_ [1,1,1,1,1,0,1,0,0,1,0,0,1,0,1]) :=
 brk (c:=umd_ (sub ucn_ [1,1,1,1,1,0,1,0,0,1,0,0,1,0,1])) (x:=sub ucn_ [1,1,1,1,1,0,1,0,0,1,0,0,1,0,1,0]) (y:=sub ucn_ [1,1,1,1,1,0,1,0,0,1,0,0,1,0,1,1]) (n:=5) (lx:=[]) (ly:=[]) un6_ trivial trivial
theorem ubex_:CutOK Tryz.prog true Tryz.f289.ntmps up6_ (sub ucn_ [1,1,1,1,1,0,1,0]) :=
 lok (body:=sub ucn_ [1,1,1,1,1,0,1,0,0]) (n:=4) (l:=[(up5_,sub ucn_ [1,1,1,1,1,0,1,0,0,1,0,0,1,0,1])]) un6_ ⟨⟨by kernel_rfl,ubew_⟩,trivial⟩
theorem ubtk_:uf_ Tryz.prog 289∧FunOK Tryz.prog 289 u5b_ :=
 fnk (c:=ucn_) (l:=[(up6_,sub ucn_ [1,1,1,1,1,0,1,0])]) un6_ Tryz.func289 ⟨⟨by kernel_rfl,ubex_⟩,trivial⟩
def und_:FSpec:=⟨[.box (.val ZZ24)],[.val .str],unx_,true⟩
def u84_:List (Nat×FSpec):=[(238,uf7_),(289,u5b_)]
theorem ubms_:FsOK Tryz.prog u84_:=⟨uin_,ubtk_,trivial⟩
def ury_:CSpec:=⟨⟨[0,3],[.box (.val ZZ24),.own 5 (.int .u8) false]⟩,[((.exit 0),⟨[0,3],[.box (.val ZZ24),.own 5 (.int .u8) false]⟩)],(seg 3 19),u8a_,[]⟩
def ub0i_:Env:=mkE u84_ [(0,ury_)] [] true
theorem u2d_:EnvOK Tryz.prog true ub0i_:=enk ubms_
def uo5_:Code:=uj_ Tryz.f390
theorem ubiz_:CutOK Tryz.prog true Tryz.f390.ntmps ury_ (sub uo5_ [1,1,0,0]) :=
 lok (body:=sub uo5_ [1,1,0,0,0]) (n:=1) (l:=[]) u2d_ trivial
theorem uut_:uf_ Tryz.prog 390∧FunOK Tryz.prog 390 und_ :=
 fnk (c:=uo5_) (l:=[(ury_,sub uo5_ [1,1,0,0])]) u2d_ Tryz.func390 ⟨⟨by kernel_rfl,ubiz_⟩,trivial⟩
def u5d_:FSpec:=⟨[.box (.val ZZ24)],[.val (.slice .str)],u00_,true⟩
def u5e_:List (Nat×FSpec):=[(237,uio_),(390,und_)]
theorem ubi0_:FsOK Tryz.prog u5e_:=⟨unc_,uut_,trivial⟩
def up7_:CSpec:=⟨⟨[0,3],[.box (.val ZZ24),.own 9 .str false]⟩,[((.exit 0),⟨[0,3],[.box (.val ZZ24),.own 9 .str false]⟩)],([3]++seg 7 22),u34_,[]⟩
def ubxc_:Env:=mkE u5e_ [(0,up7_)] [] true
theorem uzw_:EnvOK Tryz.prog true ubxc_:=enk ubi0_
def une_:Code:=uj_ Tryz.f389
theorem ubey_:CutOK Tryz.prog true Tryz.f389.ntmps up7_ (sub une_ [1,1,0,0]) :=
 lok (body:=sub une_ [1,1,0,0,0]) (n:=1) (l:=[]) uzw_ trivial
theorem ubtl_:uf_ Tryz.prog 389∧FunOK Tryz.prog 389 u5d_ :=
 fnk (c:=une_) (l:=[(up7_,sub une_ [1,1,0,0])]) uzw_ Tryz.func389 ⟨⟨by kernel_rfl,ubey_⟩,trivial⟩
def uuu_:FSpec:=⟨[.box (.val ZZ24)],[.val ZZ12],u1v_,true⟩
def uuv_:List (Nat×FSpec):=[(237,uio_),(238,uf7_),(241,u4z_),(390,und_)]
theorem u64_:FsOK Tryz.prog uuv_:=⟨unc_,uin_,ubmf_,uut_,trivial⟩
def uj8_:CSpec:=⟨⟨[0,3],[.box (.val ZZ24),.val (.int .i64)]⟩,[((.exit 0),⟨[0],[.box (.val ZZ24)]⟩)],(seg 9 35),utv_,[]⟩
def ubi1_:Env:=mkE uuv_ [(0,uj8_)] [] true
theorem uq8_:EnvOK Tryz.prog true ubi1_:=enk u64_
def uhl_:Code:=uj_ Tryz.f391
theorem u5f_:CutOK Tryz.prog true Tryz.f391.ntmps uj8_ (sub uhl_ [1,1,0,0]) :=
 lok (body:=sub uhl_ [1,1,0,0,0]) (n:=1) (l:=[]) uq8_ trivial
theorem ubez_:uf_ Tryz.prog 391∧FunOK Tryz.prog 391 uuu_ :=
 fnk (c:=uhl_) (l:=[(uj8_,sub uhl_ [1,1,0,0])]) uq8_ Tryz.func391 ⟨⟨by kernel_rfl,u5f_⟩,trivial⟩
def u85_:FSpec:=⟨[.box (.val ZZ24)],[.tr (.pr (.val .str) (.pr (.val .str) (.pr (.val .str) (.pr (.val .str) (.pr (.own 278 ZZ12 true) (.val .str))))))],ubkx_,false⟩
def u86_:List (Nat×FSpec):=[(189,umb_),(235,u82_),(237,uio_),(238,uf7_),(389,u5d_),(390,und_),(391,uuu_)]
theorem ubmt_:FsOK Tryz.prog u86_:=⟨uqz_,ubxa_,unc_,uin_,ubtl_,uut_,ubez_,trivial⟩
def urz_:CSpec:=⟨⟨[0,3,40],[.box (.val ZZ24),.box (.pr (.val .str) (.pr (.val .str) (.pr (.val .str) (.pr (.val .str) (.pr (.own 278 ZZ12 true) (.val .str)))))),.val .bool]⟩,[(.normal,⟨[0,3],[.box (.val ZZ24),.box (.pr (.val .str) (.pr (.val .str) (.pr (.val .str) (.pr (.val .str) (.pr (.own 278 ZZ12 true) (.val .str))))))]⟩)],(seg 41 10),u8b_,[]⟩
def ur0_:CSpec:=⟨⟨[0,3,5],[.box (.val ZZ24),.box (.pr (.val .str) (.pr (.val .str) (.pr (.val .str) (.pr (.val .str) (.pr (.own 278 ZZ12 true) (.val .str)))))),.val (.int .u8)]⟩,[((.exit 0),⟨[0,3],[.box (.val ZZ24),.box (.pr (.val .str) (.pr (.val .str) (.pr (.val .str) (.pr (.val .str) (.pr (.own 278 ZZ12 true) (.val .str))))))]⟩)],([5]++seg 51 37),u8c_,[]⟩
def ur1_:CSpec:=⟨⟨[0,3,97],[.box (.val ZZ24),.box (.pr (.val .str) (.pr (.val .str) (.pr (.val .str) (.pr (.val .str) (.pr (.own 278 ZZ12 true) (.val .str)))))),.val .bool]⟩,[(.normal,⟨[0,3],[.box (.val ZZ24),.box (.pr (.val .str) (.pr (.val .str) (.pr (.val .str) (.pr (.val .str) (.pr (.own 278 ZZ12 true) (.val .str))))))]⟩)],(seg 98 11),u8d_,[]⟩
def ub0j_:Env:=mkE u86_ [(1,urz_),(2,ur0_),(4,ur1_)] [2,8,14,132] false
theorem ujg_:EnvOK Tryz.prog false ub0j_:=enk ubmt_
def u6_:Code:=uj_ Tryz.f348
theorem ubi2_:CutOK Tryz.prog false Tryz.f348.ntmps urz_ (sub u6_ [1,1,1,1,1,0,1]) :=
 brk (c:=umd_ (sub u6_ [1,1,1,1,1,0,1])) (x:=sub u6_ [1,1,1,1,1,0,1,0]) (y:=sub u6_ [1,1,1,1,1,0,1,1]) (n:=1) (lx:=[]) (ly:=[]) ujg_ trivial trivial
theorem ubi3_:CutOK Tryz.prog false Tryz.f348.ntmps ur0_ (sub u6_ [1,1,1,1,1,1,0,1,0]) :=
 lok (body:=sub u6_ [1,1,1,1,1,1,0,1,0,0]) (n:=3) (l:=[]) ujg_ trivial
theorem ubi4_:CutOK Tryz.prog false Tryz.f348.ntmps ur1_ (sub u6_ [1,1,1,1,1,1,1,0,1]) :=
 brk (c:=umd_ (sub u6_ [1,1,1,1,1,1,1,0,1])) (x:=sub u6_ [1,1,1,1,1,1,1,0,1,0]) (y:=sub u6_ [1,1,1,1,1,1,1,0,1,1]) (n:=4) (lx:=[]) (ly:=[]) ujg_ trivial trivial
theorem ubxd_:uf_ Tryz.prog 348∧FunOK Tryz.prog 348 u85_ :=
 fnk (c:=u6_) (l:=[(urz_,sub u6_ [1,1,1,1,1,0,1]),(ur0_,sub u6_ [1,1,1,1,1,1,0,1,0]),(ur1_,sub u6_ [1,1,1,1,1,1,1,0,1])]) ujg_ Tryz.func348 ⟨⟨by kernel_rfl,ubi2_⟩,⟨by kernel_rfl,ubi3_⟩,⟨by kernel_rfl,ubi4_⟩,trivial⟩
def uf8_:FSpec:=⟨[.io 278 ZZ12,.val (.int .i64),.val (.int .i64),.hof false ZZ30 (.int .i64)],[],udo_,false⟩
def uf9_:List (Nat×FSpec):=[]
theorem umk_:FsOK Tryz.prog uf9_:=trivial
def ucu_:CSpec:=⟨⟨[0,1,3,9],[.own 278 ZZ12 true,.val (.int .i64),.hof false ZZ30 (.int .i64),.val (.int .i64)]⟩,[((.exit 2),⟨[0],[.own 278 ZZ12 true]⟩)],([9]++seg 18 35),uf1_,[]⟩
def ucv_:CSpec:=⟨⟨[0,1,2,3,8],[.own 278 ZZ12 true,.val (.int .i64),.val (.int .i64),.hof false ZZ30 (.int .i64),.val (.int .i64)]⟩,[((.exit 0),⟨[0],[.own 278 ZZ12 true]⟩)],([8,9]++seg 12 41),uf2_,[]⟩
def up8_:Env:=mkE uf9_ [(2,ucu_),(0,ucv_)] [] false
theorem uct_:EnvOK Tryz.prog false up8_:=enk umk_
def uv_:Code:=uj_ Tryz.f409
theorem ul0_:CutOK Tryz.prog false Tryz.f409.ntmps ucu_ (sub uv_ [1,0,0,1,0,0,1,0]) :=
 lok (body:=sub uv_ [1,0,0,1,0,0,1,0,0]) (n:=3) (l:=[]) uct_ trivial
theorem ul1_:CutOK Tryz.prog false Tryz.f409.ntmps ucv_ (sub uv_ [1,0]) :=
 lok (body:=sub uv_ [1,0,0]) (n:=1) (l:=[(ucu_,sub uv_ [1,0,0,1,0,0,1,0])]) uct_ ⟨⟨by kernel_rfl,ul0_⟩,trivial⟩
theorem uo6_:uf_ Tryz.prog 409∧FunOK Tryz.prog 409 uf8_ :=
 fnk (c:=uv_) (l:=[(ucv_,sub uv_ [1,0])]) uct_ Tryz.func409 ⟨⟨by kernel_rfl,ul1_⟩,trivial⟩
def uhv_:FSpec:=⟨[.io 278 ZZ12,.val (.int .i64),.val (.int .i64),.val (.int .i64),.hof false ZZ30 (.int .i64)],[],uc6_,true⟩
def uhw_:List (Nat×FSpec):=[]
theorem up9_:FsOK Tryz.prog uhw_:=trivial
def udr_:CSpec:=⟨⟨[0,1,2,3,10],[.own 278 ZZ12 true,.val (.int .i64),.val (.int .i64),.val (.int .i64),.val (.int .i64)]⟩,[((.exit 0),⟨[0],[.own 278 ZZ12 true]⟩)],(seg 10 28),uho_,[]⟩
def uuw_:Env:=mkE uhw_ [(0,udr_)] [] true
theorem ug3_:EnvOK Tryz.prog true uuw_:=enk up9_
def uco_:Code:=uj_ Tryz.f435
theorem uo7_:CutOK Tryz.prog true Tryz.f435.ntmps udr_ (sub uco_ [1,0]) :=
 lok (body:=sub uco_ [1,0,0]) (n:=1) (l:=[]) ug3_ trivial
theorem utf_:uf_ Tryz.prog 435∧FunOK Tryz.prog 435 uhv_ :=
 fnk (c:=uco_) (l:=[(udr_,sub uco_ [1,0])]) ug3_ Tryz.func435 ⟨⟨by kernel_rfl,uo7_⟩,trivial⟩
def uj9_:FSpec:=⟨[.io 278 ZZ12,.val (.int .i64),.val (.int .i64),.val (.int .i64),.hof false ZZ30 (.int .i64)],[],um3_,true⟩
def uka_:List (Nat×FSpec):=[(435,uhv_)]
theorem utg_:FsOK Tryz.prog uka_:=⟨utf_,trivial⟩
def uet_:CSpec:=⟨⟨[0,2,4,10,11],[.own 278 ZZ12 true,.val (.int .i64),.hof false ZZ30 (.int .i64),.val (.int .i64),.val (.int .i64)]⟩,[((.exit 0),⟨[0,10],[.own 278 ZZ12 true,.val (.int .i64)]⟩)],([10,11]++seg 18 32),ujt_,[]⟩
def uzx_:Env:=mkE uka_ [(0,uet_)] [] true
theorem uip_:EnvOK Tryz.prog true uzx_:=enk utg_
def udb_:Code:=uj_ Tryz.f424
theorem ur2_:CutOK Tryz.prog true Tryz.f424.ntmps uet_ (sub udb_ [1,1,0,0]) :=
 lok (body:=sub udb_ [1,1,0,0,0]) (n:=1) (l:=[]) uip_ trivial
theorem ux9_:uf_ Tryz.prog 424∧FunOK Tryz.prog 424 uj9_ :=
 fnk (c:=udb_) (l:=[(uet_,sub udb_ [1,1,0,0])]) uip_ Tryz.func424 ⟨⟨by kernel_rfl,ur2_⟩,trivial⟩
def uh_ (n:Nat):FSpec:=⟨[.io 278 ZZ12,.val (.int .i64),.val (.int .i64),.val (.int .i64),.hof false ZZ30 (.int .i64)],[],up_ n,false⟩
def uiq_:FSpec:=⟨[.io 278 ZZ12,.val (.int .i64),.val (.int .i64),.val (.int .i64),.hof false ZZ30 (.int .i64)],[],ufn_,false⟩
def uir_ (n:Nat):List (Nat×FSpec):=[(410,(uh_ n)),(424,uj9_)]
theorem uq9_ (n:Nat) (ih:uf_ Tryz.prog 410∧FunOK Tryz.prog 410 (uh_ n)):FsOK Tryz.prog (uir_ n):=⟨ih,ux9_,trivial⟩
def ued_ (n:Nat):CSpec:=⟨⟨[0,1,4,10,11],[.own 278 ZZ12 true,.val (.int .i64),.hof false ZZ30 (.int .i64),.val (.int .i64),.val (.int .i64)]⟩,[((.exit 0),⟨[0,10],[.own 278 ZZ12 true,.val (.int .i64)]⟩)],([10,11,12]++seg 31 23),(uie_ (up_ n)),[]⟩
def uee_ (n:Nat):CSpec:=⟨⟨[0,10,13],[.own 278 ZZ12 true,.val (.int .i64),.val (.int .i64)]⟩,[((.exit 2),⟨[0],[.own 278 ZZ12 true]⟩)],([13]++seg 55 22),(uif_ (up_ n)),[]⟩
def uef_ (n:Nat):CSpec:=⟨⟨[0,2,4,14,15],[.own 278 ZZ12 true,.val (.int .i64),.hof false ZZ30 (.int .i64),.val (.int .i64),.val (.int .i64)]⟩,[((.exit 4),⟨[0,14],[.own 278 ZZ12 true,.val (.int .i64)]⟩)],([14,15,16]++seg 83 24),(uig_ (up_ n)),[]⟩
def uds_ (n:Nat):CSpec:=⟨⟨[0,14,17],[.own 278 ZZ12 true,.val (.int .i64),.val (.int .i64)]⟩,[((.exit 6),⟨[0],[.own 278 ZZ12 true]⟩)],([17]++seg 108 21),(uhp_ (up_ n)),[]⟩
def udt_ (n:Nat):CSpec:=⟨⟨[1,2,3,18,19,140],[.val (.int .i64),.val (.int .i64),.val (.int .i64),.val (.int .i64),.val (.int .i64),.val .bool]⟩,[(.normal,⟨[20,21],[.val (.int .i64),.val (.int .i64)]⟩)],[20,21,141,142,143,144,145,146],(uhq_ (up_ n)),[]⟩
def udu_ (n:Nat):CSpec:=⟨⟨[0,4,20,21,22],[.own 278 ZZ12 true,.hof false ZZ30 (.int .i64),.val (.int .i64),.val (.int .i64),.val (.int .i64)]⟩,[((.exit 8),⟨[0,20],[.own 278 ZZ12 true,.val (.int .i64)]⟩)],([20,21,23]++seg 149 26),(uhr_ (up_ n)),[]⟩
def udv_ (n:Nat):CSpec:=⟨⟨[0,2,4,20,24,185],[.own 278 ZZ12 true,.val (.int .i64),.hof false ZZ30 (.int .i64),.val (.int .i64),.val (.int .i64),.val .bool]⟩,[(.normal,⟨[0],[.own 278 ZZ12 true]⟩)],[186,187,188,189,190,191],(uhs_ (up_ n)),[]⟩
def udw_ (n:Nat):CSpec:=⟨⟨[0,1,4,18,20,199],[.own 278 ZZ12 true,.val (.int .i64),.hof false ZZ30 (.int .i64),.val (.int .i64),.val (.int .i64),.val .bool]⟩,[(.normal,⟨[0],[.own 278 ZZ12 true]⟩)],[200,201,202,203,204,205],(uht_ (up_ n)),[]⟩
def uv2_ (n:Nat):Env:=mkE (uir_ n) [(1,(ued_ n)),(4,(uee_ n)),(7,(uef_ n)),(10,(uds_ n)),(12,(udt_ n)),(13,(udu_ n)),(16,(udv_ n)),(17,(udw_ n))] [] false
theorem ur_ (n:Nat) (ih:uf_ Tryz.prog 410∧FunOK Tryz.prog 410 (uh_ n)):EnvOK Tryz.prog false (uv2_ n):=enk (uq9_ n ih)
def ub_:Code:=uj_ Tryz.f410
theorem uqa_ (n:Nat) (ih:uf_ Tryz.prog 410∧FunOK Tryz.prog 410 (uh_ n)):CutOK Tryz.prog false Tryz.f410.ntmps (ued_ n) (sub ub_ [0,1,0,1,1,0,0]) :=
 lok (body:=sub ub_ [0,1,0,1,1,0,0,0]) (n:=2) (l:=[]) (ur_ n ih) trivial
theorem uqb_ (n:Nat) (ih:uf_ Tryz.prog 410∧FunOK Tryz.prog 410 (uh_ n)):CutOK Tryz.prog false Tryz.f410.ntmps (uee_ n) (sub ub_ [0,1,0,1,1,1,0,1,0]) :=
 lok (body:=sub ub_ [0,1,0,1,1,1,0,1,0,0]) (n:=5) (l:=[]) (ur_ n ih) trivial
theorem uqc_ (n:Nat) (ih:uf_ Tryz.prog 410∧FunOK Tryz.prog 410 (uh_ n)):CutOK Tryz.prog false Tryz.f410.ntmps (uef_ n) (sub ub_ [1,0,1,0,1,1,0,0]) :=
 lok (body:=sub ub_ [1,0,1,0,1,1,0,0,0]) (n:=8) (l:=[]) (ur_ n ih) trivial
theorem uo8_ (n:Nat) (ih:uf_ Tryz.prog 410∧FunOK Tryz.prog 410 (uh_ n)):CutOK Tryz.prog false Tryz.f410.ntmps (uds_ n) (sub ub_ [1,0,1,0,1,1,1,0,1,0]) :=
 lok (body:=sub ub_ [1,0,1,0,1,1,1,0,1,0,0]) (n:=11) (l:=[]) (ur_ n ih) trivial
theorem uo9_ (n:Nat) (ih:uf_ Tryz.prog 410∧FunOK Tryz.prog 410 (uh_ n)):CutOK Tryz.prog false Tryz.f410.ntmps (udt_ n) (sub ub_ [1,1,1,1,1,0,1]) :=
 brk (c:=umd_ (sub ub_ [1,1,1,1,1,0,1])) (x:=sub ub_ [1,1,1,1,1,0,1,0]) (y:=sub ub_ [1,1,1,1,1,0,1,1]) (n:=12) (lx:=[]) (ly:=[]) (ur_ n ih) trivial trivial
theorem upa_ (n:Nat) (ih:uf_ Tryz.prog 410∧FunOK Tryz.prog 410 (uh_ n)):CutOK Tryz.prog false Tryz.f410.ntmps (udu_ n) (sub ub_ [1,1,1,1,1,1,1,0,0]) :=
 lok (body:=sub ub_ [1,1,1,1,1,1,1,0,0,0]) (n:=14) (l:=[]) (ur_ n ih) trivial
theorem upb_ (n:Nat) (ih:uf_ Tryz.prog 410∧FunOK Tryz.prog 410 (uh_ n)):CutOK Tryz.prog false Tryz.f410.ntmps (udv_ n) (sub ub_ [1,1,1,1,1,1,1,1,1,0,1]) :=
 brk (c:=umd_ (sub ub_ [1,1,1,1,1,1,1,1,1,0,1])) (x:=sub ub_ [1,1,1,1,1,1,1,1,1,0,1,0]) (y:=sub ub_ [1,1,1,1,1,1,1,1,1,0,1,1]) (n:=16) (lx:=[]) (ly:=[]) (ur_ n ih) trivial trivial
theorem upc_ (n:Nat) (ih:uf_ Tryz.prog 410∧FunOK Tryz.prog 410 (uh_ n)):CutOK Tryz.prog false Tryz.f410.ntmps (udw_ n) (sub ub_ [1,1,1,1,1,1,1,1,1,1,0,1]) :=
 brk (c:=umd_ (sub ub_ [1,1,1,1,1,1,1,1,1,1,0,1])) (x:=sub ub_ [1,1,1,1,1,1,1,1,1,1,0,1,0]) (y:=sub ub_ [1,1,1,1,1,1,1,1,1,1,0,1,1]) (n:=17) (lx:=[]) (ly:=[]) (ur_ n ih) trivial trivial
theorem ur3_ (n:Nat) (ih:uf_ Tryz.prog 410∧FunOK Tryz.prog 410 (uh_ n)):uf_ Tryz.prog 410∧FunOK Tryz.prog 410 (uh_ (n+1)) :=
 fnk (c:=ub_) (l:=[((ued_ n),sub ub_ [0,1,0,1,1,0,0]),((uee_ n),sub ub_ [0,1,0,1,1,1,0,1,0]),((uef_ n),sub ub_ [1,0,1,0,1,1,0,0]),((uds_ n),sub ub_ [1,0,1,0,1,1,1,0,1,0]),((udt_ n),sub ub_ [1,1,1,1,1,0,1]),((udu_ n),sub ub_ [1,1,1,1,1,1,1,0,0]),((udv_ n),sub ub_ [1,1,1,1,1,1,1,1,1,0,1]),((udw_ n),sub ub_ [1,1,1,1,1,1,1,1,1,1,0,1])]) (ur_ n ih) Tryz.func410 ⟨⟨by kernel_rfl,(uqa_ n ih)⟩,⟨by kernel_rfl,(uqb_ n ih)⟩,⟨by kernel_rfl,(uqc_ n ih)⟩,⟨by kernel_rfl,(uo8_ n ih)⟩,⟨by kernel_rfl,(uo9_ n ih)⟩,⟨by kernel_rfl,(upa_ n ih)⟩,⟨by kernel_rfl,(upb_ n ih)⟩,⟨by kernel_rfl,(upc_ n ih)⟩,trivial⟩
theorem ur4_:∀ n,uf_ Tryz.prog 410∧FunOK Tryz.prog 410 (uh_ n):=fun n=>Nat.rec ⟨⟨Tryz.f410,ub_,Tryz.func410,by kernel_rfl,by kernel_rfl⟩,fun w I v args bs _ _ _ r hr=>by cases hr⟩ (fun n ih=>ur3_ n ih) n
theorem uux_:uf_ Tryz.prog 410∧FunOK Tryz.prog 410 uiq_:=ur4_ 100
def ukb_:FSpec:=⟨[.io 278 ZZ12,.val (.int .i64),.hof false ZZ30 (.int .i64)],[],um4_,false⟩
def ukc_:List (Nat×FSpec):=[(409,uf8_),(410,uiq_)]
theorem uth_:FsOK Tryz.prog ukc_:=⟨uo6_,uux_,trivial⟩
def ueu_:CSpec:=⟨⟨[0,1,2,6,7,8],[.own 278 ZZ12 true,.val (.int .i64),.hof false ZZ30 (.int .i64),.val (.int .i64),.val (.int .i64),.val (.int .i64)]⟩,[((.exit 0),⟨[0,7],[.own 278 ZZ12 true,.val (.int .i64)]⟩)],([7,8]++seg 11 12),uju_,[]⟩
def uev_:CSpec:=⟨⟨[0,1,2,6,7,8],[.own 278 ZZ12 true,.val (.int .i64),.hof false ZZ30 (.int .i64),.val (.int .i64),.val (.int .i64),.val (.int .i64)]⟩,[((.exit 4),⟨[0,7],[.own 278 ZZ12 true,.val (.int .i64)]⟩)],([7,8]++seg 33 16),ujv_,[]⟩
def uew_:CSpec:=⟨⟨[0,1,2,6],[.own 278 ZZ12 true,.val (.int .i64),.hof false ZZ30 (.int .i64),.val (.int .i64)]⟩,[((.exit 2),⟨[0],[.own 278 ZZ12 true]⟩)],([6,7,8,9]++seg 28 35),ujw_,[]⟩
def uzy_:Env:=mkE ukc_ [(0,ueu_),(4,uev_),(2,uew_)] [] false
theorem ucp_:EnvOK Tryz.prog false uzy_:=enk uth_
def ut_:Code:=uj_ Tryz.f392
theorem ur5_:CutOK Tryz.prog false Tryz.f392.ntmps ueu_ (sub ut_ [1,1,0,0]) :=
 lok (body:=sub ut_ [1,1,0,0,0]) (n:=1) (l:=[]) ucp_ trivial
theorem ur6_:CutOK Tryz.prog false Tryz.f392.ntmps uev_ (sub ut_ [1,1,1,1,0,0,1,0,1,0,0]) :=
 lok (body:=sub ut_ [1,1,1,1,0,0,1,0,1,0,0,0]) (n:=5) (l:=[]) ucp_ trivial
theorem ur7_:CutOK Tryz.prog false Tryz.f392.ntmps uew_ (sub ut_ [1,1,1,1,0]) :=
 lok (body:=sub ut_ [1,1,1,1,0,0]) (n:=3) (l:=[(uev_,sub ut_ [1,1,1,1,0,0,1,0,1,0,0])]) ucp_ ⟨⟨by kernel_rfl,ur6_⟩,trivial⟩
theorem uya_:uf_ Tryz.prog 392∧FunOK Tryz.prog 392 ukb_ :=
 fnk (c:=ut_) (l:=[(ueu_,sub ut_ [1,1,0,0]),(uew_,sub ut_ [1,1,1,1,0])]) ucp_ Tryz.func392 ⟨⟨by kernel_rfl,ur5_⟩,⟨by kernel_rfl,ur7_⟩,trivial⟩
def ui9_:FSpec:=⟨[.io 278 ZZ12,.hof false ZZ30 (.int .i64)],[],ulw_,false⟩
def uja_:List (Nat×FSpec):=[(392,ukb_)]
theorem ur8_:FsOK Tryz.prog uja_:=⟨uya_,trivial⟩
def uyb_:Env:=mkE uja_ [] [] false
theorem uti_:EnvOK Tryz.prog false uyb_:=enk ur8_
def uyc_:Code:=uj_ Tryz.f349
theorem uv3_:uf_ Tryz.prog 349∧FunOK Tryz.prog 349 ui9_ :=
 fnk (c:=uyc_) (l:=[]) uti_ Tryz.func349 trivial
def ubrx_:FSpec:=⟨[.val ZZ12,.val ZZ12],[.val (.int .i64)],ub5p_,true⟩
def ubry_:List (Nat×FSpec):=[(46,uda_)]
theorem ub0k_:FsOK Tryz.prog ubry_:=⟨uer_,trivial⟩
def uccr_:Env:=mkE ubry_ [] [] true
theorem ub3j_:EnvOK Tryz.prog true uccr_:=enk ub0k_
def uccs_:Code:=uj_ Tryz.f350
theorem ub87_:uf_ Tryz.prog 350∧FunOK Tryz.prog 350 ubrx_ :=
 fnk (c:=uccs_) (l:=[]) ub3j_ Tryz.func350 trivial
def ubxe_:FSpec:=⟨[.val (.int .u8)],[.val .bool],ubzm_,true⟩
def ubxf_:List (Nat×FSpec):=[]
theorem ub3k_:FsOK Tryz.prog ubxf_:=trivial
def ucfd_:Env:=mkE ubxf_ [] [] true
theorem ub60_:EnvOK Tryz.prog true ucfd_:=enk ub3k_
def ucfe_:Code:=uj_ Tryz.f194
theorem ucct_:uf_ Tryz.prog 194∧FunOK Tryz.prog 194 ubxe_ :=
 fnk (c:=ucfe_) (l:=[]) ub60_ Tryz.func194 trivial
def ucw_:FSpec:=⟨[.bld 5 false,.val (.int .u8)],[.any],ubd_,false⟩
def un7_:List (Nat×FSpec):=[(243,uhc_)]
theorem uzz_:FsOK Tryz.prog un7_:=⟨un0_,trivial⟩
def u65_:Env:=mkE un7_ [] [] false
theorem u1c_:EnvOK Tryz.prog false u65_:=enk uzz_
def u66_:Code:=uj_ Tryz.f191
theorem uem_:uf_ Tryz.prog 191∧FunOK Tryz.prog 191 ucw_ :=
 fnk (c:=u66_) (l:=[]) u1c_ Tryz.func191 trivial
def ubxg_:FSpec:=⟨[.val .str],[.val .str],ucag_,false⟩
def ubxh_:List (Nat×FSpec):=[(191,ucw_),(193,ube_),(194,ubxe_)]
theorem ub3l_:FsOK Tryz.prog ubxh_:=⟨uem_,uby_,ucct_,trivial⟩
def ubah_:CSpec:=⟨⟨[0,3,6,7],[.val .str,.bld 5 false,.val (.int .i64),.val (.int .i64)]⟩,[((.exit 0),⟨[3],[.bld 5 false]⟩)],([4]++seg 7 26),ubvz_,[]⟩
def ucff_:Env:=mkE ubxh_ [(0,ubah_)] [] false
theorem ubmu_:EnvOK Tryz.prog false ucff_:=enk ub3l_
def u87_:Code:=uj_ Tryz.f148
theorem ub0l_:CutOK Tryz.prog false Tryz.f148.ntmps ubah_ (sub u87_ [1,1,0,1,0]) :=
 lok (body:=sub u87_ [1,1,0,1,0,0]) (n:=1) (l:=[]) ubmu_ trivial
theorem uccu_:uf_ Tryz.prog 148∧FunOK Tryz.prog 148 ubxg_ :=
 fnk (c:=u87_) (l:=[(ubah_,sub u87_ [1,1,0,1,0])]) ubmu_ Tryz.func148 ⟨⟨by kernel_rfl,ub0l_⟩,trivial⟩
def u1d_:FSpec:=⟨[.val (.agg ZZ17)],[.val (.agg ZZ17)],ubd3_,false⟩
def ubhi_:List (Nat×FSpec):=[(138,ubta_),(147,ubmm_),(148,ubxg_)]
theorem ubtm_:FsOK Tryz.prog ubhi_:=⟨ub6n_,ub2p_,uccu_,trivial⟩
def uyd_:CSpec:=⟨⟨[1,12],[.box (.val ZZ17),.val .bool]⟩,[(.normal,⟨[1],[.box (.val ZZ17)]⟩)],[13,14,15,16,17,18,19,20],ubgk_,[]⟩
def ub61_:Env:=mkE ubhi_ [(0,uyd_)] [] false
theorem u88_:EnvOK Tryz.prog false ub61_:=enk ubtm_
def ukd_:Code:=uj_ Tryz.f111
theorem ubpm_:CutOK Tryz.prog false Tryz.f111.ntmps uyd_ (sub ukd_ [1,1,0,1]) :=
 brk (c:=umd_ (sub ukd_ [1,1,0,1])) (x:=sub ukd_ [1,1,0,1,0]) (y:=sub ukd_ [1,1,0,1,1]) (n:=0) (lx:=[]) (ly:=[]) u88_ trivial trivial
theorem ubhj_:uf_ Tryz.prog 111∧FunOK Tryz.prog 111 u1d_ :=
 fnk (c:=ukd_) (l:=[(uyd_,sub ukd_ [1,1,0,1])]) u88_ Tryz.func111 ⟨⟨by kernel_rfl,ubpm_⟩,trivial⟩
def ub62_:FSpec:=⟨[.val .str],[.val (.agg ZZ17),.val (.int .i64),.val (.int .i64)],ucin_,false⟩
def ub63_:List (Nat×FSpec):=[(109,u8u_),(111,u1d_),(348,u85_),(349,ui9_),(350,ubrx_)]
theorem ub88_:FsOK Tryz.prog ub63_:=⟨ubmh_,ubhj_,ubxd_,uv3_,ub87_,trivial⟩
def ubmv_:CSpec:=⟨⟨[2,6,7],[.box (.val ZZ17),.box (.pr (.val .str) (.pr (.val .str) (.pr (.val .str) (.pr (.val .str) (.pr (.own 278 ZZ12 true) (.val .str)))))),.val (.int .i64)]⟩,[((.exit 0),⟨[2,6],[.box (.val ZZ17),.box (.pr (.val .str) (.pr (.val .str) (.pr (.val .str) (.pr (.val .str) (.pr (.own 278 ZZ12 true) (.val .str))))))]⟩),(.ret,⟨[2,3,4],[.box (.val ZZ17),.val (.int .i64),.val (.int .i64)]⟩)],([3,4,7]++seg 31 22),ub5q_,[]⟩
def ucj7_:Env:=mkE ub63_ [(2,ubmv_)] [] false
theorem ubxi_:EnvOK Tryz.prog false ucj7_:=enk ub88_
def ubo1_:Code:=uj_ Tryz.f296
theorem ub64_:CutOK Tryz.prog false Tryz.f296.ntmps ubmv_ (sub ubo1_ [1,1,1,1,1,1,0,1,0]) :=
 lok (body:=sub ubo1_ [1,1,1,1,1,1,0,1,0,0]) (n:=3) (l:=[]) ubxi_ trivial
theorem uche_:uf_ Tryz.prog 296∧FunOK Tryz.prog 296 ub62_ :=
 fnk (c:=ubo1_) (l:=[(ubmv_,sub ubo1_ [1,1,1,1,1,1,0,1,0])]) ubxi_ Tryz.func296 ⟨⟨by kernel_rfl,ub64_⟩,trivial⟩
def ubm_:FSpec:=⟨[.bld 5 false,.val .str],[.val (.int .i64),.any],ub2_,false⟩
def ul2_:List (Nat×FSpec):=[(243,uhc_)]
theorem uv4_:FsOK Tryz.prog ul2_:=⟨un0_,trivial⟩
def u29_:Env:=mkE ul2_ [] [] false
theorem uye_:EnvOK Tryz.prog false u29_:=enk uv4_
def u3a_:Code:=uj_ Tryz.f192
theorem ub7_:uf_ Tryz.prog 192∧FunOK Tryz.prog 192 ubm_ :=
 fnk (c:=u3a_) (l:=[]) uye_ Tryz.func192 trivial
def ubai_:FSpec:=⟨[.val .str],[.val .str],ubd4_,false⟩
def ubrz_:List (Nat×FSpec):=[(142,ue9_),(190,u5a_),(191,ucw_),(192,ubm_),(193,ube_)]
theorem ub0m_:FsOK Tryz.prog ubrz_:=⟨uhb_,ubmq_,uem_,ub7_,uby_,trivial⟩
def u5g_:CSpec:=⟨⟨[0,3,7,8],[.val .str,.bld 5 false,.val (.int .i64),.val (.int .i64)]⟩,[((.exit 0),⟨[3],[.bld 5 false]⟩)],([4,5]++seg 8 39),ubrb_,[]⟩
def uccv_:Env:=mkE ubrz_ [(0,u5g_)] [] false
theorem ubhk_:EnvOK Tryz.prog false uccv_:=enk ub0m_
def u3b_:Code:=uj_ Tryz.f146
theorem ubxj_:CutOK Tryz.prog false Tryz.f146.ntmps u5g_ (sub u3b_ [1,1,0,1,0]) :=
 lok (body:=sub u3b_ [1,1,0,1,0,0]) (n:=1) (l:=[]) ubhk_ trivial
theorem ubr0_:uf_ Tryz.prog 146∧FunOK Tryz.prog 146 ubai_ :=
 fnk (c:=u3b_) (l:=[(u5g_,sub u3b_ [1,1,0,1,0])]) ubhk_ Tryz.func146 ⟨⟨by kernel_rfl,ubxj_⟩,trivial⟩
def ub65_:FSpec:=⟨[.val .str],[.val .str],ucio_,false⟩
def ub66_:List (Nat×FSpec):=[(141,u4y_),(146,ubai_),(189,umb_)]
theorem ub89_:FsOK Tryz.prog ub66_:=⟨ubmd_,ubr0_,uqz_,trivial⟩
def ubmw_:CSpec:=⟨⟨[3,7,8,9],[.own 9 .str false,.val (.slice .str),.val (.int .i64),.val (.int .i64)]⟩,[((.exit 0),⟨[3],[.own 9 .str false]⟩)],([3,5]++seg 9 10),ub5r_,[]⟩
def ucj8_:Env:=mkE ub66_ [(0,ubmw_)] [] false
theorem ubxk_:EnvOK Tryz.prog false ucj8_:=enk ub89_
def ubo2_:Code:=uj_ Tryz.f145
theorem ub67_:CutOK Tryz.prog false Tryz.f145.ntmps ubmw_ (sub ubo2_ [1,1,0,1,0]) :=
 lok (body:=sub ubo2_ [1,1,0,1,0,0]) (n:=1) (l:=[]) ubxk_ trivial
theorem uchf_:uf_ Tryz.prog 145∧FunOK Tryz.prog 145 ub65_ :=
 fnk (c:=ubo2_) (l:=[(ubmw_,sub ubo2_ [1,1,0,1,0])]) ubxk_ Tryz.func145 ⟨⟨by kernel_rfl,ub67_⟩,trivial⟩
def ubr1_:FSpec:=⟨[.val (.agg ZZ17)],[.val .str],ub5s_,false⟩
def ubr2_:List (Nat×FSpec):=[(145,ub65_),(146,ubai_)]
theorem ub0n_:FsOK Tryz.prog ubr2_:=⟨uchf_,ubr0_,trivial⟩
def uccw_:Env:=mkE ubr2_ [] [] false
theorem ub3m_:EnvOK Tryz.prog false uccw_:=enk ub0n_
def uccx_:Code:=uj_ Tryz.f110
theorem ub9a_:uf_ Tryz.prog 110∧FunOK Tryz.prog 110 ubr1_ :=
 fnk (c:=uccx_) (l:=[]) ub3m_ Tryz.func110 trivial
def ub0o_:FSpec:=⟨[.val (.agg ZZ17)],[.val .str,.val (.int .i64)],ucgu_,false⟩
def ucau_:List (Nat×FSpec):=[(109,u8u_),(110,ubr1_),(111,u1d_)]
theorem uccy_:FsOK Tryz.prog ucau_:=⟨ubmh_,ub9a_,ubhj_,trivial⟩
def ucnd_:Env:=mkE ucau_ [] [] false
theorem ucfg_:EnvOK Tryz.prog false ucnd_:=enk uccy_
def ucne_:Code:=uj_ Tryz.f84
theorem ucav_:uf_ Tryz.prog 84∧FunOK Tryz.prog 84 ub0o_ :=
 fnk (c:=ucne_) (l:=[]) ucfg_ Tryz.func84 trivial
def ubhl_:FSpec:=⟨[.val .str],[.val .bool],ubv0_,false⟩
def ubhm_:List (Nat×FSpec):=[(84,ub0o_),(296,ub62_)]
theorem ubtn_:FsOK Tryz.prog ubhm_:=⟨ucav_,uche_,trivial⟩
def ub68_:Env:=mkE ubhm_ [] [] false
theorem ubxl_:EnvOK Tryz.prog false ub68_:=enk ubtn_
def ub69_:Code:=uj_ Tryz.f244
theorem ub3n_:uf_ Tryz.prog 244∧FunOK Tryz.prog 244 ubhl_ :=
 fnk (c:=ub69_) (l:=[]) ubxl_ Tryz.func244 trivial
def ucq_:FSpec:=⟨[.val .str,.val (.int .i64),.hof false (.int .u8) .bool],[.val (.int .i64)],udz_,false⟩
def ubxm_:List (Nat×FSpec):=[]
theorem ub3o_:FsOK Tryz.prog ubxm_:=trivial
def ubaj_:CSpec:=⟨⟨[0,1,2,7],[.val .str,.val (.int .i64),.hof false (.int .u8) .bool,.val (.int .i64)]⟩,[((.exit 0),⟨[7],[.val (.int .i64)]⟩)],(seg 7 18),ubv1_,[]⟩
def ucfh_:Env:=mkE ubxm_ [(0,ubaj_)] [] false
theorem ubmx_:EnvOK Tryz.prog false ucfh_:=enk ub3o_
def u89_:Code:=uj_ Tryz.f304
theorem ub0p_:CutOK Tryz.prog false Tryz.f304.ntmps ubaj_ (sub u89_ [1,1,0,0]) :=
 lok (body:=sub u89_ [1,1,0,0,0]) (n:=1) (l:=[]) ubmx_ trivial
theorem uc8_:uf_ Tryz.prog 304∧FunOK Tryz.prog 304 ucq_ :=
 fnk (c:=u89_) (l:=[(ubaj_,sub u89_ [1,1,0,0])]) ubmx_ Tryz.func304 ⟨⟨by kernel_rfl,ub0p_⟩,trivial⟩
def uy_:FSpec:=⟨[.val (.int .u8)],[.val .bool],ux_,true⟩
def ubce_:List (Nat×FSpec):=[]
theorem ubpn_:FsOK Tryz.prog ubce_:=trivial
def ub3p_:Env:=mkE ubce_ [] [] true
theorem ubto_:EnvOK Tryz.prog true ub3p_:=enk ubpn_
def ub3q_:Code:=uj_ Tryz.f305
theorem u1_:uf_ Tryz.prog 305∧FunOK Tryz.prog 305 uy_ :=
 fnk (c:=ub3q_) (l:=[]) ubto_ Tryz.func305 trivial
def ubn_:FSpec:=⟨[.val .str],[.val (.int .i64),.val .bool],ub3_,false⟩
def ubhn_:List (Nat×FSpec):=[(304,ucq_),(305,uy_),(368,ubrl_)]
theorem ubtp_:FsOK Tryz.prog ubhn_:=⟨uc8_,u1_,strconv_Atoi_ok,trivial⟩
def ub7a_:Env:=mkE ubhn_ [] [] false
theorem ubxn_:EnvOK Tryz.prog false ub7a_:=enk ubtp_
def ub7b_:Code:=uj_ Tryz.f314
theorem ubw_:uf_ Tryz.prog 314∧FunOK Tryz.prog 314 ubn_ :=
 fnk (c:=ub7b_) (l:=[]) ubxn_ Tryz.func314 trivial
def ufv_:FSpec:=⟨[.val .str],[.val (.int .i64),.val .bool],uih_,false⟩
def uz0_:List (Nat×FSpec):=[(314,ubn_)]
theorem ubcf_:FsOK Tryz.prog uz0_:=⟨ubw_,trivial⟩
def ubpo_:Env:=mkE uz0_ [] [] false
theorem ube0_:EnvOK Tryz.prog false ubpo_:=enk ubcf_
def ubpp_:Code:=uj_ Tryz.f306
theorem uis_:uf_ Tryz.prog 306∧FunOK Tryz.prog 306 ufv_ :=
 fnk (c:=ubpp_) (l:=[]) ube0_ Tryz.func306 trivial
def uen_:FSpec:=⟨[.val (.int .u8)],[.val .bool],ufo_,true⟩
def u9a_:List (Nat×FSpec):=[]
theorem ubmy_:FsOK Tryz.prog u9a_:=trivial
def ub0q_:Env:=mkE u9a_ [] [] true
theorem ubpq_:EnvOK Tryz.prog true ub0q_:=enk ubmy_
def ub0r_:Code:=uj_ Tryz.f310
theorem uga_:uf_ Tryz.prog 310∧FunOK Tryz.prog 310 uen_ :=
 fnk (c:=ub0r_) (l:=[]) ubpq_ Tryz.func310 trivial
def usp_:FSpec:=⟨[.val (.int .u8)],[.val .bool],uy7_,true⟩
def usq_:List (Nat×FSpec):=[(305,uy_),(310,uen_)]
theorem u5h_:FsOK Tryz.prog usq_:=⟨u1_,uga_,trivial⟩
def ube1_:Env:=mkE usq_ [] [] true
theorem u67_:EnvOK Tryz.prog true ube1_:=enk u5h_
def ube2_:Code:=uj_ Tryz.f400
theorem ubcg_:uf_ Tryz.prog 400∧FunOK Tryz.prog 400 usp_ :=
 fnk (c:=ube2_) (l:=[]) u67_ Tryz.func400 trivial
def un8_:FSpec:=⟨[.val .str],[.val (.slice .str),.val .bool],utz_,false⟩
def uz1_:List (Nat×FSpec):=[(186,u4p_),(304,ucq_),(400,usp_)]
theorem ubch_:FsOK Tryz.prog uz1_:=⟨ubln_,uc8_,ubcg_,trivial⟩
def uml_:CSpec:=⟨⟨[9,10,11],[.val (.slice .str),.val (.int .i64),.val (.int .i64)]⟩,[((.exit 0),⟨[],[]⟩),(.ret,⟨[2,3],[.val (.slice .str),.val .bool]⟩)],([2,3,6]++seg 11 14),uy8_,[]⟩
def ubpr_:Env:=mkE uz1_ [(0,uml_)] [] false
theorem uuy_:EnvOK Tryz.prog false ubpr_:=enk ubch_
def ujh_:Code:=uj_ Tryz.f363
theorem ubak_:CutOK Tryz.prog false Tryz.f363.ntmps uml_ (sub ujh_ [1,1,0,1,0]) :=
 lok (body:=sub ujh_ [1,1,0,1,0,0]) (n:=1) (l:=[]) uuy_ trivial
theorem uz2_:uf_ Tryz.prog 363∧FunOK Tryz.prog 363 un8_ :=
 fnk (c:=ujh_) (l:=[(uml_,sub ujh_ [1,1,0,1,0])]) uuy_ Tryz.func363 ⟨⟨by kernel_rfl,ubak_⟩,trivial⟩
def u9b_:FSpec:=⟨[.val .str],[.val (.slice .str),.val .bool],ubkz_,false⟩
def u9c_:List (Nat×FSpec):=[(304,ucq_),(305,uy_),(306,ufv_),(363,un8_)]
theorem ubmz_:FsOK Tryz.prog u9c_:=⟨uc8_,u1_,uis_,uz2_,trivial⟩
def ur9_:CSpec:=⟨⟨[15,16,17],[.val (.slice .str),.val (.int .i64),.val (.int .i64)]⟩,[((.exit 0),⟨[],[]⟩),(.ret,⟨[2,3],[.val (.slice .str),.val .bool]⟩)],([2,3,7,8,9]++seg 17 17),u8e_,[]⟩
def ub0s_:Env:=mkE u9c_ [(0,ur9_)] [] false
theorem u2e_:EnvOK Tryz.prog false ub0s_:=enk ubmz_
def upd_:Code:=uj_ Tryz.f364
theorem ubi5_:CutOK Tryz.prog false Tryz.f364.ntmps ur9_ (sub upd_ [1,1,0,1,0]) :=
 lok (body:=sub upd_ [1,1,0,1,0,0]) (n:=1) (l:=[]) u2e_ trivial
theorem ubxo_:uf_ Tryz.prog 364∧FunOK Tryz.prog 364 u9b_ :=
 fnk (c:=upd_) (l:=[(ur9_,sub upd_ [1,1,0,1,0])]) u2e_ Tryz.func364 ⟨⟨by kernel_rfl,ubi5_⟩,trivial⟩
def ubr3_:FSpec:=⟨[.val .str],[.val (.slice .str),.val .bool],ub5t_,false⟩
def ubr4_:List (Nat×FSpec):=[(308,ubea_),(363,un8_),(364,u9b_)]
theorem ub0t_:FsOK Tryz.prog ubr4_:=⟨ubwj_,uz2_,ubxo_,trivial⟩
def uccz_:Env:=mkE ubr4_ [] [] false
theorem ub3r_:EnvOK Tryz.prog false uccz_:=enk ub0t_
def ucc0_:Code:=uj_ Tryz.f307
theorem ub9b_:uf_ Tryz.prog 307∧FunOK Tryz.prog 307 ubr3_ :=
 fnk (c:=ucc0_) (l:=[]) ub3r_ Tryz.func307 trivial
def u2f_:FSpec:=⟨[.val .str],[.val ZZ7,.val .bool],ubbk_,false⟩
def u2g_:List (Nat×FSpec):=[(304,ucq_),(305,uy_),(306,ufv_),(307,ubr3_)]
theorem ube3_:FsOK Tryz.prog u2g_:=⟨uc8_,u1_,uis_,ub9b_,trivial⟩
def un9_:CSpec:=⟨⟨[0,5,16],[.val .str,.val (.int .i64),.val .bool]⟩,[(.normal,⟨[5],[.val (.int .i64)]⟩),(.ret,⟨[2,3],[.val ZZ7,.val .bool]⟩)],([2,3,5]++seg 17 12),u1w_,[]⟩
def uoa_:CSpec:=⟨⟨[0,4,5,12],[.val .str,.box (.pr (.val (.arr 3 (.int .i64))) (.own 9 .str false)),.val (.int .i64),.val (.int .i64)]⟩,[((.exit 0),⟨[4,5],[.box (.pr (.val (.arr 3 (.int .i64))) (.own 9 .str false)),.val (.int .i64)]⟩),(.ret,⟨[2,3],[.val ZZ7,.val .bool]⟩)],([2,3,5,6,7,8,9]++seg 12 40),u1x_,[]⟩
def ubtq_:Env:=mkE u2g_ [(2,un9_),(0,uoa_)] [] false
theorem umm_:EnvOK Tryz.prog false ubtq_:=enk ube3_
def ub4_:Code:=uj_ Tryz.f256
theorem ubci_:CutOK Tryz.prog false Tryz.f256.ntmps un9_ (sub ub4_ [1,1,1,0,1,0,0,1,1,0,0,1,0,1]) :=
 brk (c:=umd_ (sub ub4_ [1,1,1,0,1,0,0,1,1,0,0,1,0,1])) (x:=sub ub4_ [1,1,1,0,1,0,0,1,1,0,0,1,0,1,0]) (y:=sub ub4_ [1,1,1,0,1,0,0,1,1,0,0,1,0,1,1]) (n:=2) (lx:=[]) (ly:=[]) umm_ trivial trivial
theorem ubcj_:CutOK Tryz.prog false Tryz.f256.ntmps uoa_ (sub ub4_ [1,1,1,0,1,0]) :=
 lok (body:=sub ub4_ [1,1,1,0,1,0,0]) (n:=1) (l:=[(un9_,sub ub4_ [1,1,1,0,1,0,0,1,1,0,0,1,0,1])]) umm_ ⟨⟨by kernel_rfl,ubci_⟩,trivial⟩
theorem ubps_:uf_ Tryz.prog 256∧FunOK Tryz.prog 256 u2f_ :=
 fnk (c:=ub4_) (l:=[(uoa_,sub ub4_ [1,1,1,0,1,0])]) umm_ Tryz.func256 ⟨⟨by kernel_rfl,ubcj_⟩,trivial⟩
def usr_:FSpec:=⟨[.val (.int .u8)],[.val .bool],uy9_,true⟩
def uss_:List (Nat×FSpec):=[(142,ue9_),(305,uy_),(310,uen_)]
theorem u5i_:FsOK Tryz.prog uss_:=⟨uhb_,u1_,uga_,trivial⟩
def ube4_:Env:=mkE uss_ [] [] true
theorem u68_:EnvOK Tryz.prog true ube4_:=enk u5i_
def ube5_:Code:=uj_ Tryz.f309
theorem ubck_:uf_ Tryz.prog 309∧FunOK Tryz.prog 309 usr_ :=
 fnk (c:=ube5_) (l:=[]) u68_ Tryz.func309 trivial
def u5j_:FSpec:=⟨[.val .str],[.val .bool],ubgl_,false⟩
def u5k_:List (Nat×FSpec):=[(304,ucq_),(305,uy_)]
theorem ubi6_:FsOK Tryz.prog u5k_:=⟨uc8_,u1_,trivial⟩
def uqd_:CSpec:=⟨⟨[0,3],[.val .str,.val (.int .i64)]⟩,[((.exit 0),⟨[],[]⟩),(.ret,⟨[2],[.val .bool]⟩)],(seg 2 16),u35_,[]⟩
def ubxp_:Env:=mkE u5k_ [(0,uqd_)] [] false
theorem uz3_:EnvOK Tryz.prog false ubxp_:=enk ubi6_
def unf_:Code:=uj_ Tryz.f311
theorem ube6_:CutOK Tryz.prog false Tryz.f311.ntmps uqd_ (sub unf_ [1,0,1,0]) :=
 lok (body:=sub unf_ [1,0,1,0,0]) (n:=1) (l:=[]) uz3_ trivial
theorem ubtr_:uf_ Tryz.prog 311∧FunOK Tryz.prog 311 u5j_ :=
 fnk (c:=unf_) (l:=[(uqd_,sub unf_ [1,0,1,0])]) uz3_ Tryz.func311 ⟨⟨by kernel_rfl,ube6_⟩,trivial⟩
def uz4_:FSpec:=⟨[.val .str],[.val ZZ7,.val .bool],u8f_,false⟩
def uz5_:List (Nat×FSpec):=[(142,ue9_),(304,ucq_),(305,uy_),(306,ufv_),(308,ubea_),(309,usr_),(311,u5j_),(312,uuc_)]
theorem ubcl_:FsOK Tryz.prog uz5_:=⟨uhb_,uc8_,u1_,uis_,ubwj_,ubck_,ubtr_,ubd9_,trivial⟩
def umn_:CSpec:=⟨⟨[0,4,5,6,18],[.val .str,.box (.val ZZ26),.val .str,.val .str,.val .bool]⟩,[(.normal,⟨[0,4],[.val .str,.box (.val ZZ26)]⟩),(.ret,⟨[2,3],[.val ZZ7,.val .bool]⟩)],([0,2,3,8,9]++seg 19 10),uza_,[]⟩
def ubpt_:Env:=mkE uz5_ [(0,umn_)] [] false
theorem uuz_:EnvOK Tryz.prog false ubpt_:=enk ubcl_
def ues_:Code:=uj_ Tryz.f257
theorem ubal_:CutOK Tryz.prog false Tryz.f257.ntmps umn_ (sub ues_ [1,1,0,1,1]) :=
 brk (c:=umd_ (sub ues_ [1,1,0,1,1])) (x:=sub ues_ [1,1,0,1,1,0]) (y:=sub ues_ [1,1,0,1,1,1]) (n:=0) (lx:=[]) (ly:=[]) uuz_ trivial trivial
theorem ubm0_:uf_ Tryz.prog 257∧FunOK Tryz.prog 257 uz4_ :=
 fnk (c:=ues_) (l:=[(umn_,sub ues_ [1,1,0,1,1])]) uuz_ Tryz.func257 ⟨⟨by kernel_rfl,ubal_⟩,trivial⟩
def u5l_:FSpec:=⟨[.val .str],[.val ZZ18,.val .str,.val .bool],ubgm_,false⟩
def u5m_:List (Nat×FSpec):=[(304,ucq_),(305,uy_),(314,ubn_)]
theorem ubi7_:FsOK Tryz.prog u5m_:=⟨uc8_,u1_,ubw_,trivial⟩
def uqe_:CSpec:=⟨⟨[0,5],[.val .str,.own 3 (.int .i64) false]⟩,[(.ret,⟨[2,3,4],[.val ZZ18,.val .str,.val .bool]⟩)],([0]++seg 2 43),u36_,[]⟩
def ubxq_:Env:=mkE u5m_ [(0,uqe_)] [] false
theorem uz6_:EnvOK Tryz.prog false ubxq_:=enk ubi7_
def ung_:Code:=uj_ Tryz.f315
theorem ube7_:CutOK Tryz.prog false Tryz.f315.ntmps uqe_ (sub ung_ [1,1,0]) :=
 lok (body:=sub ung_ [1,1,0,0]) (n:=1) (l:=[]) uz6_ trivial
theorem ubts_:uf_ Tryz.prog 315∧FunOK Tryz.prog 315 u5l_ :=
 fnk (c:=ung_) (l:=[(uqe_,sub ung_ [1,1,0])]) uz6_ Tryz.func315 ⟨⟨by kernel_rfl,ube7_⟩,trivial⟩
def ubho_:FSpec:=⟨[.val (.int .u8)],[.val .bool],ubv3_,true⟩
def ubhp_:List (Nat×FSpec):=[]
theorem ubtt_:FsOK Tryz.prog ubhp_:=trivial
def ub7c_:Env:=mkE ubhp_ [] [] true
theorem ubxr_:EnvOK Tryz.prog true ub7c_:=enk ubtt_
def ub7d_:Code:=uj_ Tryz.f403
theorem ub3s_:uf_ Tryz.prog 403∧FunOK Tryz.prog 403 ubho_ :=
 fnk (c:=ub7d_) (l:=[]) ubxr_ Tryz.func403 trivial
def ubhq_:FSpec:=⟨[.val .str,.hof false (.int .u8) .bool],[.val (.int .i64)],ubd5_,false⟩
def ubhr_:List (Nat×FSpec):=[(403,ubho_)]
theorem ubtu_:FsOK Tryz.prog ubhr_:=⟨ub3s_,trivial⟩
def ub7e_:Env:=mkE ubhr_ [] [] false
theorem ubxs_:EnvOK Tryz.prog false ub7e_:=enk ubtu_
def ub7f_:Code:=uj_ Tryz.f369
theorem ub3t_:uf_ Tryz.prog 369∧FunOK Tryz.prog 369 ubhq_ :=
 fnk (c:=ub7f_) (l:=[]) ubxs_ Tryz.func369 trivial
def u5n_:FSpec:=⟨[.val .str],[.val .str,.val (.int .i64),.val (.int .i64)],ubgn_,true⟩
def u5o_:List (Nat×FSpec):=[(290,u4n_)]
theorem ubi8_:FsOK Tryz.prog u5o_:=⟨ubsr_,trivial⟩
def uqf_:CSpec:=⟨⟨[0,2,7,8,9],[.val .str,.val .str,.own 9 .str false,.val (.int .i64),.val (.int .i64)]⟩,[((.exit 0),⟨[2],[.val .str]⟩)],([2,6]++seg 9 9),u37_,[]⟩
def uqg_:CSpec:=⟨⟨[18,21],[.val .str,.val .bool]⟩,[(.normal,⟨[21],[.val .bool]⟩)],[21,23],u38_,[]⟩
def uqh_:CSpec:=⟨⟨[18,25],[.val .str,.val .bool]⟩,[(.normal,⟨[25],[.val .bool]⟩)],[25,27],u39_,[]⟩
def uqi_:CSpec:=⟨⟨[18,29],[.val .str,.val .bool]⟩,[(.normal,⟨[29],[.val .bool]⟩)],[29,31,32,33],u4a_,[]⟩
def ubxt_:Env:=mkE u5o_ [(0,uqf_),(4,uqg_),(6,uqh_),(8,uqi_)] [] true
theorem ufw_:EnvOK Tryz.prog true ubxt_:=enk ubi8_
def us_:Code:=uj_ Tryz.f370
theorem ube8_:CutOK Tryz.prog true Tryz.f370.ntmps uqf_ (sub us_ [1,0,1,0]) :=
 lok (body:=sub us_ [1,0,1,0,0]) (n:=1) (l:=[]) ufw_ trivial
theorem ube9_:CutOK Tryz.prog true Tryz.f370.ntmps uqg_ (sub us_ [1,1,0,1,0,1,1,0,1]) :=
 brk (c:=umd_ (sub us_ [1,1,0,1,0,1,1,0,1])) (x:=sub us_ [1,1,0,1,0,1,1,0,1,0]) (y:=sub us_ [1,1,0,1,0,1,1,0,1,1]) (n:=4) (lx:=[]) (ly:=[]) ufw_ trivial trivial
theorem ubfa_:CutOK Tryz.prog true Tryz.f370.ntmps uqh_ (sub us_ [1,1,0,1,0,1,1,1,1,0,1]) :=
 brk (c:=umd_ (sub us_ [1,1,0,1,0,1,1,1,1,0,1])) (x:=sub us_ [1,1,0,1,0,1,1,1,1,0,1,0]) (y:=sub us_ [1,1,0,1,0,1,1,1,1,0,1,1]) (n:=6) (lx:=[]) (ly:=[]) ufw_ trivial trivial
theorem ubfb_:CutOK Tryz.prog true Tryz.f370.ntmps uqi_ (sub us_ [1,1,0,1,0,1,1,1,1,1,1,0,1]) :=
 brk (c:=umd_ (sub us_ [1,1,0,1,0,1,1,1,1,1,1,0,1])) (x:=sub us_ [1,1,0,1,0,1,1,1,1,1,1,0,1,0]) (y:=sub us_ [1,1,0,1,0,1,1,1,1,1,1,0,1,1]) (n:=8) (lx:=[]) (ly:=[]) ufw_ trivial trivial
theorem ubtv_:uf_ Tryz.prog 370∧FunOK Tryz.prog 370 u5n_ :=
 fnk (c:=us_) (l:=[(uqf_,sub us_ [1,0,1,0]),(uqg_,sub us_ [1,1,0,1,0,1,1,0,1]),(uqh_,sub us_ [1,1,0,1,0,1,1,1,1,0,1]),(uqi_,sub us_ [1,1,0,1,0,1,1,1,1,1,1,0,1])]) ufw_ Tryz.func370 ⟨⟨by kernel_rfl,ube8_⟩,⟨by kernel_rfl,ube9_⟩,⟨by kernel_rfl,ubfa_⟩,⟨by kernel_rfl,ubfb_⟩,trivial⟩
def uwx_:FSpec:=⟨[.box (.val ZZ10),.val .str],[.val .str,.val .bool],u4b_,false⟩
def uwy_:List (Nat×FSpec):=[(304,ucq_),(305,uy_),(310,uen_),(314,ubn_),(369,ubhq_),(370,u5n_)]
theorem ubam_:FsOK Tryz.prog uwy_:=⟨uc8_,u1_,uga_,ubw_,ub3t_,ubtv_,trivial⟩
def uk7_:CSpec:=⟨⟨[7,11,12,49],[.val .str,.val (.int .i64),.val (.int .i64),.val .bool]⟩,[(.normal,⟨[7,11],[.val .str,.val (.int .i64)]⟩),(.ret,⟨[4,5],[.val .str,.val .bool]⟩)],([4,5,7,11,13,14,15]++seg 50 21),uwb_,[]⟩
def uk8_:CSpec:=⟨⟨[0,1,6],[.box (.val ZZ10),.val .str,.val (.int .i64)]⟩,[(.ret,⟨[0,4,5],[.box (.val ZZ10),.val .str,.val .bool]⟩)],([1]++seg 4 91),uwc_,[]⟩
def ubm1_:Env:=mkE uwy_ [(3,uk7_),(0,uk8_)] [] false
theorem uke_:EnvOK Tryz.prog false ubm1_:=enk ubam_
def ubo_:Code:=uj_ Tryz.f316
theorem u69_:CutOK Tryz.prog false Tryz.f316.ntmps uk7_ (sub ubo_ [1,1,0,0,0,1,1,1,1,1,1,0,1,1]) :=
 brk (c:=umd_ (sub ubo_ [1,1,0,0,0,1,1,1,1,1,1,0,1,1])) (x:=sub ubo_ [1,1,0,0,0,1,1,1,1,1,1,0,1,1,0]) (y:=sub ubo_ [1,1,0,0,0,1,1,1,1,1,1,0,1,1,1]) (n:=3) (lx:=[]) (ly:=[]) uke_ trivial trivial
theorem u7a_:CutOK Tryz.prog false Tryz.f316.ntmps uk8_ (sub ubo_ [1,1,0]) :=
 lok (body:=sub ubo_ [1,1,0,0]) (n:=1) (l:=[(uk7_,sub ubo_ [1,1,0,0,0,1,1,1,1,1,1,0,1,1])]) uke_ ⟨⟨by kernel_rfl,u69_⟩,trivial⟩
theorem ubi9_:uf_ Tryz.prog 316∧FunOK Tryz.prog 316 uwx_ :=
 fnk (c:=ubo_) (l:=[(uk8_,sub ubo_ [1,1,0])]) uke_ Tryz.func316 ⟨⟨by kernel_rfl,u7a_⟩,trivial⟩
def u2h_:FSpec:=⟨[.val (.int .i32)],[.val .bool],ubbl_,true⟩
def u2i_:List (Nat×FSpec):=[]
theorem ubfc_:FsOK Tryz.prog u2i_:=trivial
def ubtw_:Env:=mkE u2i_ [] [] true
theorem ubja_:EnvOK Tryz.prog true ubtw_:=enk ubfc_
def ubtx_:Code:=uj_ Tryz.f373
theorem ubpu_:uf_ Tryz.prog 373∧FunOK Tryz.prog 373 u2h_ :=
 fnk (c:=ubtx_) (l:=[]) ubja_ Tryz.func373 trivial
def u2j_:FSpec:=⟨[.val (.int .u8)],[.val .bool],ubbm_,true⟩
def u2k_:List (Nat×FSpec):=[(305,uy_),(310,uen_)]
theorem ubfd_:FsOK Tryz.prog u2k_:=⟨u1_,uga_,trivial⟩
def ubty_:Env:=mkE u2k_ [] [] true
theorem ubjb_:EnvOK Tryz.prog true ubty_:=enk ubfd_
def ubtz_:Code:=uj_ Tryz.f374
theorem ubpv_:uf_ Tryz.prog 374∧FunOK Tryz.prog 374 u2j_ :=
 fnk (c:=ubtz_) (l:=[]) ubjb_ Tryz.func374 trivial
def ubcm_:FSpec:=⟨[.val .str],[.val (.slice .str),.val .bool],ubrc_,false⟩
def ubcn_:List (Nat×FSpec):=[(304,ucq_),(305,uy_),(372,u17_),(373,u2h_),(374,u2j_)]
theorem ubpw_:FsOK Tryz.prog ubcn_:=⟨uc8_,u1_,ubpa_,ubpu_,ubpv_,trivial⟩
def uu0_:CSpec:=⟨⟨[5,13,14,15],[.val (.int .i64),.val (.slice .str),.val (.int .i64),.val (.int .i64)]⟩,[((.exit 0),⟨[5],[.val (.int .i64)]⟩),(.ret,⟨[2,3],[.val (.slice .str),.val .bool]⟩)],([2,3,5,7,8]++seg 15 26),ubbn_,[]⟩
def ub3u_:Env:=mkE ubcn_ [(0,uu0_)] [] false
theorem u5p_:EnvOK Tryz.prog false ub3u_:=enk ubpw_
def uri_:Code:=uj_ Tryz.f318
theorem ubm2_:CutOK Tryz.prog false Tryz.f318.ntmps uu0_ (sub uri_ [1,1,1,0,1,0]) :=
 lok (body:=sub uri_ [1,1,1,0,1,0,0]) (n:=1) (l:=[]) u5p_ trivial
theorem ub0u_:uf_ Tryz.prog 318∧FunOK Tryz.prog 318 ubcm_ :=
 fnk (c:=uri_) (l:=[(uu0_,sub uri_ [1,1,1,0,1,0])]) u5p_ Tryz.func318 ⟨⟨by kernel_rfl,ubm2_⟩,trivial⟩
def u2l_:FSpec:=⟨[.val .str],[.val ZZ7,.val .bool],ubbo_,false⟩
def u2m_:List (Nat×FSpec):=[(304,ucq_),(305,uy_),(313,u16_),(314,ubn_),(315,u5l_),(316,uwx_),(317,u4o_),(318,ubcm_)]
theorem ubfe_:FsOK Tryz.prog u2m_:=⟨uc8_,u1_,ubo9_,ubw_,ubts_,ubi9_,ubss_,ub0u_,trivial⟩
def uob_:CSpec:=⟨⟨[0,4,5,29],[.val .str,.box (.val ZZ10),.val (.int .i64),.val .bool]⟩,[(.normal,⟨[0,4],[.val .str,.box (.val ZZ10)]⟩),(.ret,⟨[2,3],[.val ZZ7,.val .bool]⟩)],([0,2,3,6,7]++seg 30 15),u1y_,[]⟩
def ubt0_:Env:=mkE u2m_ [(0,uob_)] [] false
theorem uwz_:EnvOK Tryz.prog false ubt0_:=enk ubfe_
def ufb_:Code:=uj_ Tryz.f258
theorem ubco_:CutOK Tryz.prog false Tryz.f258.ntmps uob_ (sub ufb_ [1,1,1,0,1,1]) :=
 brk (c:=umd_ (sub ufb_ [1,1,1,0,1,1])) (x:=sub ufb_ [1,1,1,0,1,1,0]) (y:=sub ufb_ [1,1,1,0,1,1,1]) (n:=0) (lx:=[]) (ly:=[]) uwz_ trivial trivial
theorem ubpx_:uf_ Tryz.prog 258∧FunOK Tryz.prog 258 u2l_ :=
 fnk (c:=ufb_) (l:=[(uob_,sub ufb_ [1,1,1,0,1,1])]) uwz_ Tryz.func258 ⟨⟨by kernel_rfl,ubco_⟩,trivial⟩
def ubm3_:FSpec:=⟨[.val .str,.val .bool],[.val .str],ub13_,false⟩
def ubm4_:List (Nat×FSpec):=[(259,ux1_)]
theorem ubxu_:FsOK Tryz.prog ubm4_:=⟨ubb3_,trivial⟩
def ub9c_:Env:=mkE ubm4_ [] [] false
theorem ub0v_:EnvOK Tryz.prog false ub9c_:=enk ubxu_
def ub9d_:Code:=uj_ Tryz.f321
theorem ub7g_:uf_ Tryz.prog 321∧FunOK Tryz.prog 321 ubm3_ :=
 fnk (c:=ub9d_) (l:=[]) ub0v_ Tryz.func321 trivial
def uit_:FSpec:=⟨[.val ZZ20],[.val .bool],um5_,true⟩
def uz7_:List (Nat×FSpec):=[]
theorem ubcp_:FsOK Tryz.prog uz7_:=trivial
def ubpy_:Env:=mkE uz7_ [] [] true
theorem ubff_:EnvOK Tryz.prog true ubpy_:=enk ubcp_
def ubpz_:Code:=uj_ Tryz.f322
theorem uoc_:uf_ Tryz.prog 322∧FunOK Tryz.prog 322 uit_ :=
 fnk (c:=ubpz_) (l:=[]) ubff_ Tryz.func322 trivial
def uu1_:FSpec:=⟨[.val .str],[.val ZZ7,.val .bool],u1z_,false⟩
def uu2_:List (Nat×FSpec):=[(304,ucq_),(305,uy_),(310,uen_),(314,ubn_),(321,ubm3_),(322,uit_)]
theorem u7b_:FsOK Tryz.prog uu2_:=⟨uc8_,u1_,uga_,ubw_,ub7g_,uoc_,trivial⟩
def ukf_:CSpec:=⟨⟨[0,5,24],[.val .str,.val (.int .i64),.val .bool]⟩,[(.normal,⟨[5],[.val (.int .i64)]⟩),(.ret,⟨[2,3],[.val ZZ7,.val .bool]⟩)],([2,3,5]++seg 25 27),ut0_,[]⟩
def ukg_:CSpec:=⟨⟨[0,4,5],[.val .str,.box (.own 487 ZZ20 false),.val (.int .i64)]⟩,[((.exit 0),⟨[4],[.box (.own 487 ZZ20 false)]⟩),(.ret,⟨[2,3],[.val ZZ7,.val .bool]⟩)],([2,3]++seg 5 110),ut1_,[]⟩
def ukh_:CSpec:=⟨⟨[4],[.box (.val (.slice ZZ20))]⟩,[((.exit 2),⟨[4],[.box (.val (.slice ZZ20))]⟩)],(seg 115 23),ut2_,[]⟩
def ubjc_:Env:=mkE uu2_ [(2,ukf_),(0,ukg_),(7,ukh_)] [] false
theorem ufl_:EnvOK Tryz.prog false ubjc_:=enk u7b_
def uz_:Code:=uj_ Tryz.f260
theorem u5q_:CutOK Tryz.prog false Tryz.f260.ntmps ukf_ (sub uz_ [1,1,0,1,0,0,1,0,0,1]) :=
 brk (c:=umd_ (sub uz_ [1,1,0,1,0,0,1,0,0,1])) (x:=sub uz_ [1,1,0,1,0,0,1,0,0,1,0]) (y:=sub uz_ [1,1,0,1,0,0,1,0,0,1,1]) (n:=2) (lx:=[]) (ly:=[]) ufl_ trivial trivial
theorem u5r_:CutOK Tryz.prog false Tryz.f260.ntmps ukg_ (sub uz_ [1,1,0,1,0]) :=
 lok (body:=sub uz_ [1,1,0,1,0,0]) (n:=1) (l:=[(ukf_,sub uz_ [1,1,0,1,0,0,1,0,0,1])]) ufl_ ⟨⟨by kernel_rfl,u5q_⟩,trivial⟩
theorem u5s_:CutOK Tryz.prog false Tryz.f260.ntmps ukh_ (sub uz_ [1,1,1,0,0]) :=
 lok (body:=sub uz_ [1,1,1,0,0,0]) (n:=8) (l:=[]) ufl_ trivial
theorem ubfg_:uf_ Tryz.prog 260∧FunOK Tryz.prog 260 uu1_ :=
 fnk (c:=uz_) (l:=[(ukg_,sub uz_ [1,1,0,1,0]),(ukh_,sub uz_ [1,1,1,0,0])]) ufl_ Tryz.func260 ⟨⟨by kernel_rfl,u5r_⟩,⟨by kernel_rfl,u5s_⟩,trivial⟩
def u5t_:FSpec:=⟨[.val .str],[.val ZZ7,.val .bool],ubgo_,false⟩
def u5u_:List (Nat×FSpec):=[(306,ufv_)]
theorem ubjd_:FsOK Tryz.prog u5u_:=⟨uis_,trivial⟩
def ubxv_:Env:=mkE u5u_ [] [] false
theorem ubm5_:EnvOK Tryz.prog false ubxv_:=enk ubjd_
def ubxw_:Code:=uj_ Tryz.f261
theorem ubt1_:uf_ Tryz.prog 261∧FunOK Tryz.prog 261 u5t_ :=
 fnk (c:=ubxw_) (l:=[]) ubm5_ Tryz.func261 trivial
def umc_:FSpec:=⟨[.val (.int .i64),.val .str],[.val ZZ7,.val (.int .i64)],uxy_,false⟩
def ubr5_:List (Nat×FSpec):=[(256,u2f_),(257,uz4_),(258,u2l_),(259,ux1_),(260,uu1_),(261,u5t_)]
theorem ub0w_:FsOK Tryz.prog ubr5_:=⟨ubps_,ubm0_,ubpx_,ubb3_,ubfg_,ubt1_,trivial⟩
def ucc1_:Env:=mkE ubr5_ [] [] false
theorem ub3v_:EnvOK Tryz.prog false ucc1_:=enk ub0w_
def ucc2_:Code:=uj_ Tryz.f198
theorem ura_:uf_ Tryz.prog 198∧FunOK Tryz.prog 198 umc_ :=
 fnk (c:=ucc2_) (l:=[]) ub3v_ Tryz.func198 trivial
def uod_:FSpec:=⟨[.val ZZ18],[.val .str],ut3_,false⟩
def uz8_:List (Nat×FSpec):=[(189,umb_),(361,uc1_)]
theorem ubcq_:FsOK Tryz.prog uz8_:=⟨uqz_,udf_,trivial⟩
def umo_:CSpec:=⟨⟨[3,6,7,8],[.own 9 .str false,.val ZZ18,.val (.int .i64),.val (.int .i64)]⟩,[((.exit 0),⟨[3],[.own 9 .str false]⟩)],([3,5]++seg 8 10),uzb_,[]⟩
def ubp0_:Env:=mkE uz8_ [(0,umo_)] [] false
theorem uu3_:EnvOK Tryz.prog false ubp0_:=enk ubcq_
def uji_:Code:=uj_ Tryz.f466
theorem uban_:CutOK Tryz.prog false Tryz.f466.ntmps umo_ (sub uji_ [1,1,0,1,0]) :=
 lok (body:=sub uji_ [1,1,0,1,0,0]) (n:=1) (l:=[]) uu3_ trivial
theorem uz9_:uf_ Tryz.prog 466∧FunOK Tryz.prog 466 uod_ :=
 fnk (c:=uji_) (l:=[(umo_,sub uji_ [1,1,0,1,0])]) uu3_ Tryz.func466 ⟨⟨by kernel_rfl,uban_⟩,trivial⟩
def ump_:FSpec:=⟨[.val (.agg (.prod (.arr 3 (.int .i64)) (.slice .str)))],[.val .str],uro_,false⟩
def uw0_:List (Nat×FSpec):=[(189,umb_),(466,uod_)]
theorem ubao_:FsOK Tryz.prog uw0_:=⟨uqz_,uz9_,trivial⟩
def ubm6_:Env:=mkE uw0_ [] [] false
theorem ubcr_:EnvOK Tryz.prog false ubm6_:=enk ubao_
def ubm7_:Code:=uj_ Tryz.f463
theorem uw1_:uf_ Tryz.prog 463∧FunOK Tryz.prog 463 ump_ :=
 fnk (c:=ubm7_) (l:=[]) ubcr_ Tryz.func463 trivial
def u0a_:FSpec:=⟨[.val .str],[.val .str],ut4_,false⟩
def u0b_:List (Nat×FSpec):=[(191,ucw_),(192,ubm_),(193,ube_),(304,ucq_),(305,uy_),(314,ubn_),(361,uc1_)]
theorem ubcs_:FsOK Tryz.prog u0b_:=⟨uem_,ub7_,uby_,uc8_,u1_,ubw_,udf_,trivial⟩
def umq_:CSpec:=⟨⟨[0,3,4],[.val .str,.bld 5 false,.val (.int .i64)]⟩,[((.exit 0),⟨[3],[.bld 5 false]⟩)],(seg 4 49),uzc_,[]⟩
def ubp1_:Env:=mkE u0b_ [(0,umq_)] [] false
theorem uu4_:EnvOK Tryz.prog false ubp1_:=enk ubcs_
def ujj_:Code:=uj_ Tryz.f473
theorem ubap_:CutOK Tryz.prog false Tryz.f473.ntmps umq_ (sub ujj_ [1,1,0,1,0]) :=
 lok (body:=sub ujj_ [1,1,0,1,0,0]) (n:=1) (l:=[]) uu4_ trivial
theorem ubm8_:uf_ Tryz.prog 473∧FunOK Tryz.prog 473 u0a_ :=
 fnk (c:=ujj_) (l:=[(umq_,sub ujj_ [1,1,0,1,0])]) uu4_ Tryz.func473 ⟨⟨by kernel_rfl,ubap_⟩,trivial⟩
def umr_:FSpec:=⟨[.val (.agg ZZ26)],[.val .str],urp_,true⟩
def uw2_:List (Nat×FSpec):=[]
theorem ubaq_:FsOK Tryz.prog uw2_:=trivial
def ubm9_:Env:=mkE uw2_ [] [] true
theorem ubct_:EnvOK Tryz.prog true ubm9_:=enk ubaq_
def ubna_:Code:=uj_ Tryz.f475
theorem uw3_:uf_ Tryz.prog 475∧FunOK Tryz.prog 475 umr_ :=
 fnk (c:=ubna_) (l:=[]) ubct_ Tryz.func475 trivial
def uu5_:FSpec:=⟨[.val (.int .u8)],[.val .bool],u10_,true⟩
def uu6_:List (Nat×FSpec):=[(305,uy_)]
theorem u7c_:FsOK Tryz.prog uu6_:=⟨u1_,trivial⟩
def ubje_:Env:=mkE uu6_ [] [] true
theorem ubar_:EnvOK Tryz.prog true ubje_:=enk u7c_
def ubjf_:Code:=uj_ Tryz.f476
theorem ubfh_:uf_ Tryz.prog 476∧FunOK Tryz.prog 476 uu5_ :=
 fnk (c:=ubjf_) (l:=[]) ubar_ Tryz.func476 trivial
def ubcu_:FSpec:=⟨[.val .str],[.val .str],ubrd_,false⟩
def ubcv_:List (Nat×FSpec):=[(191,ucw_),(193,ube_),(310,uen_)]
theorem ubp2_:FsOK Tryz.prog ubcv_:=⟨uem_,uby_,uga_,trivial⟩
def uu7_:CSpec:=⟨⟨[0,3,6,7],[.val .str,.bld 5 false,.val (.int .i64),.val (.int .i64)]⟩,[((.exit 0),⟨[3],[.bld 5 false]⟩)],([4]++seg 7 24),ubbp_,[]⟩
def ub3w_:Env:=mkE ubcv_ [(0,uu7_)] [] false
theorem u5v_:EnvOK Tryz.prog false ub3w_:=enk ubp2_
def urj_:Code:=uj_ Tryz.f477
theorem ubnb_:CutOK Tryz.prog false Tryz.f477.ntmps uu7_ (sub urj_ [1,1,0,1,0]) :=
 lok (body:=sub urj_ [1,1,0,1,0,0]) (n:=1) (l:=[]) u5v_ trivial
theorem ub0x_:uf_ Tryz.prog 477∧FunOK Tryz.prog 477 ubcu_ :=
 fnk (c:=urj_) (l:=[(uu7_,sub urj_ [1,1,0,1,0])]) u5v_ Tryz.func477 ⟨⟨by kernel_rfl,ubnb_⟩,trivial⟩
def uc2_:FSpec:=⟨[.val (.int .i64)],[.val .str],udp_,false⟩
def ubr6_:List (Nat×FSpec):=[(361,uc1_),(396,ubg7_)]
theorem ub0y_:FsOK Tryz.prog ubr6_:=⟨udf_,ub23_,trivial⟩
def ucc3_:Env:=mkE ubr6_ [] [] false
theorem ub3x_:EnvOK Tryz.prog false ucc3_:=enk ub0y_
def ucc4_:Code:=uj_ Tryz.f360
theorem udg_:uf_ Tryz.prog 360∧FunOK Tryz.prog 360 uc2_ :=
 fnk (c:=ucc4_) (l:=[]) ub3x_ Tryz.func360 trivial
def uqj_:FSpec:=⟨[.val .str],[.val .str],ujx_,false⟩
def u2n_:List (Nat×FSpec):=[(192,ubm_),(193,ube_),(304,ucq_),(305,uy_),(314,ubn_),(360,uc2_),(476,uu5_),(477,ubcu_)]
theorem ubfi_:FsOK Tryz.prog u2n_:=⟨ub7_,uby_,uc8_,u1_,ubw_,udg_,ubfh_,ub0x_,trivial⟩
def uoe_:CSpec:=⟨⟨[0,3],[.val .str,.bld 5 false]⟩,[((.exit 0),⟨[3],[.bld 5 false]⟩)],([0]++seg 4 34),u11_,[]⟩
def ubt2_:Env:=mkE u2n_ [(0,uoe_)] [] false
theorem uw4_:EnvOK Tryz.prog false ubt2_:=enk ubfi_
def uk9_:Code:=uj_ Tryz.f474
theorem ubcw_:CutOK Tryz.prog false Tryz.f474.ntmps uoe_ (sub uk9_ [1,1,0,0]) :=
 lok (body:=sub uk9_ [1,1,0,0,0]) (n:=1) (l:=[]) uw4_ trivial
theorem u2o_:uf_ Tryz.prog 474∧FunOK Tryz.prog 474 uqj_ :=
 fnk (c:=uk9_) (l:=[(uoe_,sub uk9_ [1,1,0,0])]) uw4_ Tryz.func474 ⟨⟨by kernel_rfl,ubcw_⟩,trivial⟩
def ula_:FSpec:=⟨[.val (.agg ZZ26)],[.val .str],upx_,false⟩
def uu8_:List (Nat×FSpec):=[(361,uc1_),(473,u0a_),(474,uqj_),(475,umr_)]
theorem u7d_:FsOK Tryz.prog uu8_:=⟨udf_,ubm8_,u2o_,uw3_,trivial⟩
def uki_:CSpec:=⟨⟨[1,3,9],[.box (.val ZZ26),.val .str,.val .bool]⟩,[(.normal,⟨[1,3],[.box (.val ZZ26),.val .str]⟩)],[3,10,11,12,13,14,15],ut5_,[]⟩
def ubjg_:Env:=mkE uu8_ [(0,uki_)] [] false
theorem urb_:EnvOK Tryz.prog false ubjg_:=enk u7d_
def udd_:Code:=uj_ Tryz.f470
theorem u5w_:CutOK Tryz.prog false Tryz.f470.ntmps uki_ (sub udd_ [1,1,0,1]) :=
 brk (c:=umd_ (sub udd_ [1,1,0,1])) (x:=sub udd_ [1,1,0,1,0]) (y:=sub udd_ [1,1,0,1,1]) (n:=0) (lx:=[]) (ly:=[]) urb_ trivial trivial
theorem uu9_:uf_ Tryz.prog 470∧FunOK Tryz.prog 470 ula_ :=
 fnk (c:=udd_) (l:=[(uki_,sub udd_ [1,1,0,1])]) urb_ Tryz.func470 ⟨⟨by kernel_rfl,u5w_⟩,trivial⟩
def uyf_:FSpec:=⟨[.val ZZ18],[.val ZZ18],u93_,true⟩
def ubcx_:List (Nat×FSpec):=[]
theorem ubp3_:FsOK Tryz.prog ubcx_:=trivial
def uva_:CSpec:=⟨⟨[0],[.val ZZ18]⟩,[((.exit 0),⟨[0],[.val ZZ18]⟩)],([0]++seg 3 17),ubbq_,[]⟩
def ub3y_:Env:=mkE ubcx_ [(0,uva_)] [] true
theorem u5x_:EnvOK Tryz.prog true ub3y_:=enk ubp3_
def urk_:Code:=uj_ Tryz.f481
theorem ubnc_:CutOK Tryz.prog true Tryz.f481.ntmps uva_ (sub urk_ [1,0,0]) :=
 lok (body:=sub urk_ [1,0,0,0]) (n:=1) (l:=[]) u5x_ trivial
theorem ubcy_:uf_ Tryz.prog 481∧FunOK Tryz.prog 481 uyf_ :=
 fnk (c:=urk_) (l:=[(uva_,sub urk_ [1,0,0])]) u5x_ Tryz.func481 ⟨⟨by kernel_rfl,ubnc_⟩,trivial⟩
def ums_:FSpec:=⟨[.val (.agg ZZ10)],[.val .str],urq_,false⟩
def uw5_:List (Nat×FSpec):=[(314,ubn_),(361,uc1_),(466,uod_),(481,uyf_)]
theorem ubas_:FsOK Tryz.prog uw5_:=⟨ubw_,udf_,uz9_,ubcy_,trivial⟩
def ulb_:CSpec:=⟨⟨[1,3,11],[.box (.val ZZ10),.val .str,.val .bool]⟩,[(.normal,⟨[1,3],[.box (.val ZZ10),.val .str]⟩)],[3,12,13,14,15],uwd_,[]⟩
def ulc_:CSpec:=⟨⟨[3,4,21],[.val .str,.val ZZ18,.val .bool]⟩,[(.normal,⟨[3],[.val .str]⟩)],[3,22,23,24,25,26,27],uwe_,[]⟩
def uld_:CSpec:=⟨⟨[1,3,30],[.box (.val ZZ10),.val .str,.val .bool]⟩,[(.normal,⟨[1,3],[.box (.val ZZ10),.val .str]⟩)],([3]++seg 31 11),uwf_,[]⟩
def ule_:CSpec:=⟨⟨[1,3,44],[.box (.val ZZ10),.val .str,.val .bool]⟩,[(.normal,⟨[1,3],[.box (.val ZZ10),.val .str]⟩)],[3,45,46,47,48,49,50],uwg_,[]⟩
def ulf_:CSpec:=⟨⟨[1,3,53],[.box (.val ZZ10),.val .str,.val .bool]⟩,[(.normal,⟨[1,3],[.box (.val ZZ10),.val .str]⟩)],[3,54,55,56,57,58,59],uwh_,[]⟩
def ulg_:CSpec:=⟨⟨[6,7,73],[.val .str,.val (.int .i64),.val .bool]⟩,[(.normal,⟨[6],[.val .str]⟩)],[6,74,75],uwi_,[]⟩
def ulh_:CSpec:=⟨⟨[3,61,62,63],[.val .str,.val (.slice .str),.val (.int .i64),.val (.int .i64)]⟩,[((.exit 0),⟨[3],[.val .str]⟩)],([3,5,6,7,8]++seg 63 24),uwj_,[]⟩
def ubnd_:Env:=mkE uw5_ [(0,ulb_),(1,ulc_),(2,uld_),(3,ule_),(4,ulf_),(7,ulg_),(5,ulh_)] [] false
theorem ubf_:EnvOK Tryz.prog false ubnd_:=enk ubas_
def ue_:Code:=uj_ Tryz.f478
theorem u7e_:CutOK Tryz.prog false Tryz.f478.ntmps ulb_ (sub ue_ [1,1,0,1]) :=
 brk (c:=umd_ (sub ue_ [1,1,0,1])) (x:=sub ue_ [1,1,0,1,0]) (y:=sub ue_ [1,1,0,1,1]) (n:=0) (lx:=[]) (ly:=[]) ubf_ trivial trivial
theorem u7f_:CutOK Tryz.prog false Tryz.f478.ntmps ulc_ (sub ue_ [1,1,1,0,1,1]) :=
 brk (c:=umd_ (sub ue_ [1,1,1,0,1,1])) (x:=sub ue_ [1,1,1,0,1,1,0]) (y:=sub ue_ [1,1,1,0,1,1,1]) (n:=1) (lx:=[]) (ly:=[]) ubf_ trivial trivial
theorem u7g_:CutOK Tryz.prog false Tryz.f478.ntmps uld_ (sub ue_ [1,1,1,1,0,1]) :=
 brk (c:=umd_ (sub ue_ [1,1,1,1,0,1])) (x:=sub ue_ [1,1,1,1,0,1,0]) (y:=sub ue_ [1,1,1,1,0,1,1]) (n:=2) (lx:=[]) (ly:=[]) ubf_ trivial trivial
theorem u7h_:CutOK Tryz.prog false Tryz.f478.ntmps ule_ (sub ue_ [1,1,1,1,1,0,1]) :=
 brk (c:=umd_ (sub ue_ [1,1,1,1,1,0,1])) (x:=sub ue_ [1,1,1,1,1,0,1,0]) (y:=sub ue_ [1,1,1,1,1,0,1,1]) (n:=3) (lx:=[]) (ly:=[]) ubf_ trivial trivial
theorem u7i_:CutOK Tryz.prog false Tryz.f478.ntmps ulf_ (sub ue_ [1,1,1,1,1,1,0,1]) :=
 brk (c:=umd_ (sub ue_ [1,1,1,1,1,1,0,1])) (x:=sub ue_ [1,1,1,1,1,1,0,1,0]) (y:=sub ue_ [1,1,1,1,1,1,0,1,1]) (n:=4) (lx:=[]) (ly:=[]) ubf_ trivial trivial
theorem u7j_:CutOK Tryz.prog false Tryz.f478.ntmps ulg_ (sub ue_ [1,1,1,1,1,1,1,0,1,0,0,1,1,0,0,1,0,1,1]) :=
 brk (c:=umd_ (sub ue_ [1,1,1,1,1,1,1,0,1,0,0,1,1,0,0,1,0,1,1])) (x:=sub ue_ [1,1,1,1,1,1,1,0,1,0,0,1,1,0,0,1,0,1,1,0]) (y:=sub ue_ [1,1,1,1,1,1,1,0,1,0,0,1,1,0,0,1,0,1,1,1]) (n:=7) (lx:=[]) (ly:=[]) ubf_ trivial trivial
theorem u7k_:CutOK Tryz.prog false Tryz.f478.ntmps ulh_ (sub ue_ [1,1,1,1,1,1,1,0,1,0]) :=
 lok (body:=sub ue_ [1,1,1,1,1,1,1,0,1,0,0]) (n:=6) (l:=[(ulg_,sub ue_ [1,1,1,1,1,1,1,0,1,0,0,1,1,0,0,1,0,1,1])]) ubf_ ⟨⟨by kernel_rfl,u7j_⟩,trivial⟩
theorem uw6_:uf_ Tryz.prog 478∧FunOK Tryz.prog 478 ums_ :=
 fnk (c:=ue_) (l:=[(ulb_,sub ue_ [1,1,0,1]),(ulc_,sub ue_ [1,1,1,0,1,1]),(uld_,sub ue_ [1,1,1,1,0,1]),(ule_,sub ue_ [1,1,1,1,1,0,1]),(ulf_,sub ue_ [1,1,1,1,1,1,0,1]),(ulh_,sub ue_ [1,1,1,1,1,1,1,0,1,0])]) ubf_ Tryz.func478 ⟨⟨by kernel_rfl,u7e_⟩,⟨by kernel_rfl,u7f_⟩,⟨by kernel_rfl,u7g_⟩,⟨by kernel_rfl,u7h_⟩,⟨by kernel_rfl,u7i_⟩,⟨by kernel_rfl,u7k_⟩,trivial⟩
def ui2_:FSpec:=⟨[.val (.agg (.slice ZZ20))],[.val .str],ume_,false⟩
def urc_:List (Nat×FSpec):=[(189,umb_),(322,uit_),(361,uc1_)]
theorem u3c_:FsOK Tryz.prog urc_:=⟨uqz_,uoc_,udf_,trivial⟩
def uh6_:CSpec:=⟨⟨[3,7,8,9],[.own 9 .str false,.val (.slice ZZ20),.val (.int .i64),.val (.int .i64)]⟩,[((.exit 0),⟨[3],[.own 9 .str false]⟩)],([3,5]++seg 9 25),uqw_,[]⟩
def ubcz_:Env:=mkE urc_ [(0,uh6_)] [] false
theorem uof_:EnvOK Tryz.prog false ubcz_:=enk u3c_
def ugb_:Code:=uj_ Tryz.f486
theorem u1e_:CutOK Tryz.prog false Tryz.f486.ntmps uh6_ (sub ugb_ [1,1,0,1,0]) :=
 lok (body:=sub ugb_ [1,1,0,1,0,0]) (n:=1) (l:=[]) uof_ trivial
theorem urd_:uf_ Tryz.prog 486∧FunOK Tryz.prog 486 ui2_ :=
 fnk (c:=ugb_) (l:=[(uh6_,sub ugb_ [1,1,0,1,0])]) uof_ Tryz.func486 ⟨⟨by kernel_rfl,u1e_⟩,trivial⟩
def uog_:FSpec:=⟨[.val (.agg (.int .i64))],[.val .str],ut6_,true⟩
def u0c_:List (Nat×FSpec):=[(361,uc1_)]
theorem ubc0_:FsOK Tryz.prog u0c_:=⟨udf_,trivial⟩
def ubp4_:Env:=mkE u0c_ [] [] true
theorem ubfj_:EnvOK Tryz.prog true ubp4_:=enk ubc0_
def ubp5_:Code:=uj_ Tryz.f492
theorem u0d_:uf_ Tryz.prog 492∧FunOK Tryz.prog 492 uog_ :=
 fnk (c:=ubp5_) (l:=[]) ubfj_ Tryz.func492 trivial
def ubc1_:FSpec:=⟨[.val ZZ7],[.val .str,.val (.int .i64)],ubre_,false⟩
def ubc2_:List (Nat×FSpec):=[(463,ump_),(470,ula_),(478,ums_),(486,ui2_),(492,uog_)]
theorem ubp6_:FsOK Tryz.prog ubc2_:=⟨uw1_,uu9_,uw6_,urd_,u0d_,trivial⟩
def ub3z_:Env:=mkE ubc2_ [] [] false
theorem ubt3_:EnvOK Tryz.prog false ub3z_:=enk ubp6_
def ub30_:Code:=uj_ Tryz.f297
theorem ub0z_:uf_ Tryz.prog 297∧FunOK Tryz.prog 297 ubc1_ :=
 fnk (c:=ub30_) (l:=[]) ubt3_ Tryz.func297 trivial
def uoh_:FSpec:=⟨[.val (.int .i64),.val .str],[.val .str,.val (.int .i64)],uzd_,false⟩
def ubne_:List (Nat×FSpec):=[(198,umc_),(297,ubc1_)]
theorem ubxx_:FsOK Tryz.prog ubne_:=⟨ura_,ub0z_,trivial⟩
def ub9e_:Env:=mkE ubne_ [] [] false
theorem ub00_:EnvOK Tryz.prog false ub9e_:=enk ubxx_
def ub9f_:Code:=uj_ Tryz.f246
theorem uvb_:uf_ Tryz.prog 246∧FunOK Tryz.prog 246 uoh_ :=
 fnk (c:=ub9f_) (l:=[]) ub00_ Tryz.func246 trivial
def uw7_:FSpec:=⟨[.val (.agg ZZ16)],[.val (.int .i64)],u4c_,false⟩
def uw8_:List (Nat×FSpec):=[(246,uoh_)]
theorem ubat_:FsOK Tryz.prog uw8_:=⟨uvb_,trivial⟩
def uli_:CSpec:=⟨⟨[1,12,13,14],[.box (.val ZZ16),.val (.slice (.agg (.prod (.int .i64) .str))),.val (.int .i64),.val (.int .i64)]⟩,[((.exit 0),⟨[],[]⟩),(.ret,⟨[2],[.val (.int .i64)]⟩)],([2,4,5,6]++seg 14 30),uwk_,[]⟩
def ubnf_:Env:=mkE uw8_ [(1,uli_)] [] false
theorem ust_:EnvOK Tryz.prog false ubnf_:=enk ubat_
def uiu_:Code:=uj_ Tryz.f245
theorem u7l_:CutOK Tryz.prog false Tryz.f245.ntmps uli_ (sub uiu_ [1,1,0,1,0]) :=
 lok (body:=sub uiu_ [1,1,0,1,0,0]) (n:=2) (l:=[]) ust_ trivial
theorem ubjh_:uf_ Tryz.prog 245∧FunOK Tryz.prog 245 uw7_ :=
 fnk (c:=uiu_) (l:=[(uli_,sub uiu_ [1,1,0,1,0])]) ust_ Tryz.func245 ⟨⟨by kernel_rfl,u7l_⟩,trivial⟩
def ure_:FSpec:=⟨[.val (.slice .str)],[.val (.int .i64)],uwl_,true⟩
def urf_:List (Nat×FSpec):=[]
theorem u3d_:FsOK Tryz.prog urf_:=trivial
def uh7_:CSpec:=⟨⟨[4,5,25,26],[.val .str,.val .bool,.val (.int .i64),.val (.int .i64)]⟩,[((.exit 2),⟨[5],[.val .bool]⟩)],([5,6]++seg 26 17),uqx_,[]⟩
def uh8_:CSpec:=⟨⟨[0,10,11,12],[.val (.slice .str),.val (.slice .str),.val (.int .i64),.val (.int .i64)]⟩,[((.exit 0),⟨[],[]⟩),(.ret,⟨[2],[.val (.int .i64)]⟩)],([2,3,4,5,6]++seg 12 46),uqy_,[]⟩
def ubc3_:Env:=mkE urf_ [(3,uh7_),(1,uh8_)] [] true
theorem uhh_:EnvOK Tryz.prog true ubc3_:=enk u3d_
def ubz_:Code:=uj_ Tryz.f247
theorem u1f_:CutOK Tryz.prog true Tryz.f247.ntmps uh7_ (sub ubz_ [1,1,0,1,0,0,1,1,0,0,1,1,0,1,0]) :=
 lok (body:=sub ubz_ [1,1,0,1,0,0,1,1,0,0,1,1,0,1,0,0]) (n:=4) (l:=[]) uhh_ trivial
theorem u1g_:CutOK Tryz.prog true Tryz.f247.ntmps uh8_ (sub ubz_ [1,1,0,1,0]) :=
 lok (body:=sub ubz_ [1,1,0,1,0,0]) (n:=2) (l:=[(uh7_,sub ubz_ [1,1,0,1,0,0,1,1,0,0,1,1,0,1,0])]) uhh_ ⟨⟨by kernel_rfl,u1f_⟩,trivial⟩
theorem ubau_:uf_ Tryz.prog 247∧FunOK Tryz.prog 247 ure_ :=
 fnk (c:=ubz_) (l:=[(uh8_,sub ubz_ [1,1,0,1,0])]) uhh_ Tryz.func247 ⟨⟨by kernel_rfl,u1g_⟩,trivial⟩
def usu_:FSpec:=⟨[.val (.agg ZZ16)],[.val (.int .i64)],uze_,false⟩
def usv_:List (Nat×FSpec):=[(244,ubhl_),(245,uw7_),(246,uoh_),(247,ure_)]
theorem u5y_:FsOK Tryz.prog usv_:=⟨ub3n_,ubjh_,uvb_,ubau_,trivial⟩
def ui3_:CSpec:=⟨⟨[1,32,33,34],[.box (.val ZZ16),.val (.slice .str),.val (.int .i64),.val (.int .i64)]⟩,[((.exit 1),⟨[1],[.box (.val ZZ16)]⟩),(.ret,⟨[2],[.val (.int .i64)]⟩)],([2,5,6,7]++seg 34 15),usi_,[]⟩
def ubfk_:Env:=mkE usv_ [(4,ui3_)] [] false
theorem upq_:EnvOK Tryz.prog false ubfk_:=enk u5y_
def ugw_:Code:=uj_ Tryz.f195
theorem u3e_:CutOK Tryz.prog false Tryz.f195.ntmps ui3_ (sub ugw_ [1,1,1,1,0,1,0]) :=
 lok (body:=sub ugw_ [1,1,1,1,0,1,0,0]) (n:=5) (l:=[]) upq_ trivial
theorem ubc4_:uf_ Tryz.prog 195∧FunOK Tryz.prog 195 usu_ :=
 fnk (c:=ugw_) (l:=[(ui3_,sub ugw_ [1,1,1,1,0,1,0])]) upq_ Tryz.func195 ⟨⟨by kernel_rfl,u3e_⟩,trivial⟩
def ubhs_:FSpec:=⟨[],[.val (.arr 4 (.int .i64))],ubv4_,true⟩
def ubht_:List (Nat×FSpec):=[]
theorem ubt4_:FsOK Tryz.prog ubht_:=trivial
def ub7h_:Env:=mkE ubht_ [] [] true
theorem ubxy_:EnvOK Tryz.prog true ub7h_:=enk ubt4_
def ub7i_:Code:=uj_ Tryz.f300
theorem ub31_:uf_ Tryz.prog 300∧FunOK Tryz.prog 300 ubhs_ :=
 fnk (c:=ub7i_) (l:=[]) ubxy_ Tryz.func300 trivial
def uoi_:FSpec:=⟨[.val ZZ18,.val .str,.hof false (.int .i64) .str],[.val .str],ut7_,false⟩
def u0e_:List (Nat×FSpec):=[(192,ubm_),(193,ube_)]
theorem ubc5_:FsOK Tryz.prog u0e_:=⟨ub7_,uby_,trivial⟩
def umt_:CSpec:=⟨⟨[2,7,10,11,12],[.hof false (.int .i64) .str,.bld 5 false,.val ZZ18,.val (.int .i64),.val (.int .i64)]⟩,[((.exit 0),⟨[7],[.bld 5 false]⟩)],([9]++seg 12 9),uzf_,[]⟩
def ubp7_:Env:=mkE u0e_ [(0,umt_)] [] false
theorem uvc_:EnvOK Tryz.prog false ubp7_:=enk ubc5_
def ujk_:Code:=uj_ Tryz.f467
theorem ubav_:CutOK Tryz.prog false Tryz.f467.ntmps umt_ (sub ujk_ [1,1,0,1,0]) :=
 lok (body:=sub ujk_ [1,1,0,1,0,0]) (n:=1) (l:=[]) uvc_ trivial
theorem u0f_:uf_ Tryz.prog 467∧FunOK Tryz.prog 467 uoi_ :=
 fnk (c:=ujk_) (l:=[(umt_,sub ujk_ [1,1,0,1,0])]) uvc_ Tryz.func467 ⟨⟨by kernel_rfl,ubav_⟩,trivial⟩
def ukj_:FSpec:=⟨[.val (.slice .str),.val .str,.hof false .str .str],[.val .str],uny_,false⟩
def usw_:List (Nat×FSpec):=[(192,ubm_),(193,ube_)]
theorem u5z_:FsOK Tryz.prog usw_:=⟨ub7_,uby_,trivial⟩
def ui4_:CSpec:=⟨⟨[2,7,10,11,12],[.hof false .str .str,.bld 5 false,.val (.slice .str),.val (.int .i64),.val (.int .i64)]⟩,[((.exit 0),⟨[7],[.bld 5 false]⟩)],([9]++seg 12 9),usj_,[]⟩
def ubfl_:Env:=mkE usw_ [(0,ui4_)] [] false
theorem upr_:EnvOK Tryz.prog false ubfl_:=enk u5z_
def ugx_:Code:=uj_ Tryz.f468
theorem u3f_:CutOK Tryz.prog false Tryz.f468.ntmps ui4_ (sub ugx_ [1,1,0,1,0]) :=
 lok (body:=sub ugx_ [1,1,0,1,0,0]) (n:=1) (l:=[]) upr_ trivial
theorem usx_:uf_ Tryz.prog 468∧FunOK Tryz.prog 468 ukj_ :=
 fnk (c:=ugx_) (l:=[(ui4_,sub ugx_ [1,1,0,1,0])]) upr_ Tryz.func468 ⟨⟨by kernel_rfl,u3f_⟩,trivial⟩
def ubc6_:FSpec:=⟨[.val .str],[.val .str],ubrf_,false⟩
def ubc7_:List (Nat×FSpec):=[(314,ubn_),(360,uc2_)]
theorem ubp8_:FsOK Tryz.prog ubc7_:=⟨ubw_,udg_,trivial⟩
def ub32_:Env:=mkE ubc7_ [] [] false
theorem ubt5_:EnvOK Tryz.prog false ub32_:=enk ubp8_
def ub33_:Code:=uj_ Tryz.f469
theorem ub01_:uf_ Tryz.prog 469∧FunOK Tryz.prog 469 ubc6_ :=
 fnk (c:=ub33_) (l:=[]) ubt5_ Tryz.func469 trivial
def ujl_:FSpec:=⟨[.val (.agg (.prod (.arr 3 (.int .i64)) (.slice .str)))],[.val .str],uox_,false⟩
def u2p_:List (Nat×FSpec):=[(360,uc2_),(467,uoi_),(468,ukj_),(469,ubc6_)]
theorem ubfm_:FsOK Tryz.prog u2p_:=⟨udg_,u0f_,usx_,ub01_,trivial⟩
def ubt6_:Env:=mkE u2p_ [] [] false
theorem ubji_:EnvOK Tryz.prog false ubt6_:=enk ubfm_
def ubt7_:Code:=uj_ Tryz.f464
theorem uqk_:uf_ Tryz.prog 464∧FunOK Tryz.prog 464 ujl_ :=
 fnk (c:=ubt7_) (l:=[]) ubji_ Tryz.func464 trivial
def uiv_:FSpec:=⟨[.val (.agg ZZ26)],[.val .str],um6_,false⟩
def u0g_:List (Nat×FSpec):=[(360,uc2_),(474,uqj_),(475,umr_)]
theorem ubc8_:FsOK Tryz.prog u0g_:=⟨udg_,u2o_,uw3_,trivial⟩
def ubp9_:Env:=mkE u0g_ [] [] false
theorem ubfn_:EnvOK Tryz.prog false ubp9_:=enk ubc8_
def ubqa_:Code:=uj_ Tryz.f471
theorem uoj_:uf_ Tryz.prog 471∧FunOK Tryz.prog 471 uiv_ :=
 fnk (c:=ubqa_) (l:=[]) ubfn_ Tryz.func471 trivial
def uvd_:FSpec:=⟨[.val (.int .i64)],[.val .str],u12_,false⟩
def uve_:List (Nat×FSpec):=[(360,uc2_)]
theorem u7m_:FsOK Tryz.prog uve_:=⟨udg_,trivial⟩
def ubjj_:Env:=mkE uve_ [] [] false
theorem ubaw_:EnvOK Tryz.prog false ubjj_:=enk u7m_
def ubjk_:Code:=uj_ Tryz.f482
theorem ubfo_:uf_ Tryz.prog 482∧FunOK Tryz.prog 482 uvd_ :=
 fnk (c:=ubjk_) (l:=[]) ubaw_ Tryz.func482 trivial
def uw9_:FSpec:=⟨[.val (.agg ZZ10)],[.val (.int .i64)],u4d_,true⟩
def uxa_:List (Nat×FSpec):=[]
theorem ubax_:FsOK Tryz.prog uxa_:=trivial
def ubng_:Env:=mkE uxa_ [] [] true
theorem ubc9_:EnvOK Tryz.prog true ubng_:=enk ubax_
def ubnh_:Code:=uj_ Tryz.f483
theorem ubjl_:uf_ Tryz.prog 483∧FunOK Tryz.prog 483 uw9_ :=
 fnk (c:=ubnh_) (l:=[]) ubc9_ Tryz.func483 trivial
def ubni_:FSpec:=⟨[.val (.int .i64)],[.val .str],ub14_,false⟩
def ubnj_:List (Nat×FSpec):=[(360,uc2_)]
theorem ubxz_:FsOK Tryz.prog ubnj_:=⟨udg_,trivial⟩
def ub9g_:Env:=mkE ubnj_ [] [] false
theorem ub02_:EnvOK Tryz.prog false ub9g_:=enk ubxz_
def ub9h_:Code:=uj_ Tryz.f484
theorem ub7j_:uf_ Tryz.prog 484∧FunOK Tryz.prog 484 ubni_ :=
 fnk (c:=ub9h_) (l:=[]) ub02_ Tryz.func484 trivial
def u9d_:FSpec:=⟨[.val .str],[.val .str],ubk3_,false⟩
def u9e_:List (Nat×FSpec):=[(314,ubn_),(360,uc2_)]
theorem ubnk_:FsOK Tryz.prog u9e_:=⟨ubw_,udg_,trivial⟩
def ub03_:Env:=mkE u9e_ [] [] false
theorem ubqb_:EnvOK Tryz.prog false ub03_:=enk ubnk_
def ub04_:Code:=uj_ Tryz.f485
theorem ubx0_:uf_ Tryz.prog 485∧FunOK Tryz.prog 485 u9d_ :=
 fnk (c:=ub04_) (l:=[]) ubqb_ Tryz.func485 trivial
def ujm_:FSpec:=⟨[.val (.agg ZZ10)],[.val .str],uoy_,false⟩
def u2q_:List (Nat×FSpec):=[(360,uc2_),(361,uc1_),(467,uoi_),(468,ukj_),(481,uyf_),(482,uvd_),(483,uw9_),(484,ubni_),(485,u9d_)]
theorem ubfp_:FsOK Tryz.prog u2q_:=⟨udg_,udf_,u0f_,usx_,ubcy_,ubfo_,ubjl_,ub7j_,ubx0_,trivial⟩
def uok_:CSpec:=⟨⟨[1,3,27],[.box (.val ZZ10),.val .str,.val .bool]⟩,[(.normal,⟨[1,3],[.box (.val ZZ10),.val .str]⟩)],([3]++seg 28 8),u13_,[]⟩
def ubt8_:Env:=mkE u2q_ [(0,uok_)] [] false
theorem uxb_:EnvOK Tryz.prog false ubt8_:=enk ubfp_
def ufc_:Code:=uj_ Tryz.f479
theorem ubda_:CutOK Tryz.prog false Tryz.f479.ntmps uok_ (sub ufc_ [1,1,1,0,1]) :=
 brk (c:=umd_ (sub ufc_ [1,1,1,0,1])) (x:=sub ufc_ [1,1,1,0,1,0]) (y:=sub ufc_ [1,1,1,0,1,1]) (n:=0) (lx:=[]) (ly:=[]) uxb_ trivial trivial
theorem uql_:uf_ Tryz.prog 479∧FunOK Tryz.prog 479 ujm_ :=
 fnk (c:=ufc_) (l:=[(uok_,sub ufc_ [1,1,1,0,1])]) uxb_ Tryz.func479 ⟨⟨by kernel_rfl,ubda_⟩,trivial⟩
def u50_:FSpec:=⟨[],[.val (.slice .str)],ubk4_,true⟩
def ubnl_:List (Nat×FSpec):=[]
theorem ubx1_:FsOK Tryz.prog ubnl_:=trivial
def ub9i_:Env:=mkE ubnl_ [] [] true
theorem ub05_:EnvOK Tryz.prog true ub9i_:=enk ubx1_
def ub9j_:Code:=uj_ Tryz.f491
theorem ubnm_:uf_ Tryz.prog 491∧FunOK Tryz.prog 491 u50_ :=
 fnk (c:=ub9j_) (l:=[]) ub05_ Tryz.func491 trivial
def uol_:FSpec:=⟨[.val (.slice .str),.val .str],[.val (.int .i64)],ut8_,true⟩
def u0h_:List (Nat×FSpec):=[]
theorem ubdb_:FsOK Tryz.prog u0h_:=trivial
def umu_:CSpec:=⟨⟨[0,1,7,8],[.val (.slice .str),.val .str,.val (.int .i64),.val (.int .i64)]⟩,[((.exit 0),⟨[],[]⟩),(.ret,⟨[4],[.val (.int .i64)]⟩)],([4,5]++seg 8 11),uzg_,[]⟩
def ubqc_:Env:=mkE u0h_ [(0,umu_)] [] true
theorem uvf_:EnvOK Tryz.prog true ubqc_:=enk ubdb_
def ujn_:Code:=uj_ Tryz.f122
theorem ubay_:CutOK Tryz.prog true Tryz.f122.ntmps umu_ (sub ujn_ [1,0,1,0]) :=
 lok (body:=sub ujn_ [1,0,1,0,0]) (n:=1) (l:=[]) uvf_ trivial
theorem u0i_:uf_ Tryz.prog 122∧FunOK Tryz.prog 122 uol_ :=
 fnk (c:=ujn_) (l:=[(umu_,sub ujn_ [1,0,1,0])]) uvf_ Tryz.func122 ⟨⟨by kernel_rfl,ubay_⟩,trivial⟩
def ugc_:FSpec:=⟨[.val (.slice .str),.val .str],[.val .bool],uii_,true⟩
def usy_:List (Nat×FSpec):=[(122,uol_)]
theorem u51_:FsOK Tryz.prog usy_:=⟨u0i_,trivial⟩
def ubfq_:Env:=mkE usy_ [] [] true
theorem u7n_:EnvOK Tryz.prog true ubfq_:=enk u51_
def ubfr_:Code:=uj_ Tryz.f90
theorem ukk_:uf_ Tryz.prog 90∧FunOK Tryz.prog 90 ugc_ :=
 fnk (c:=ubfr_) (l:=[]) u7n_ Tryz.func90 trivial
def umv_:FSpec:=⟨[.val ZZ20],[.val .bool],urr_,true⟩
def uxc_:List (Nat×FSpec):=[(90,ugc_),(491,u50_)]
theorem ubaz_:FsOK Tryz.prog uxc_:=⟨ukk_,ubnm_,trivial⟩
def ubnn_:Env:=mkE uxc_ [] [] true
theorem ubdc_:EnvOK Tryz.prog true ubnn_:=enk ubaz_
def ubno_:Code:=uj_ Tryz.f489
theorem uxd_:uf_ Tryz.prog 489∧FunOK Tryz.prog 489 umv_ :=
 fnk (c:=ubno_) (l:=[]) ubdc_ Tryz.func489 trivial
def u9f_:FSpec:=⟨[.val ZZ20],[.val .str],u4e_,false⟩
def u9g_:List (Nat×FSpec):=[(122,uol_),(360,uc2_),(361,uc1_),(489,umv_),(491,u50_)]
theorem ubnp_:FsOK Tryz.prog u9g_:=⟨u0i_,udg_,udf_,uxd_,ubnm_,trivial⟩
def ub06_:Env:=mkE u9g_ [] [] false
theorem ubqd_:EnvOK Tryz.prog false ub06_:=enk ubnp_
def ub07_:Code:=uj_ Tryz.f490
theorem ubx2_:uf_ Tryz.prog 490∧FunOK Tryz.prog 490 u9f_ :=
 fnk (c:=ub07_) (l:=[]) ubqd_ Tryz.func490 trivial
def ugy_:FSpec:=⟨[.val (.agg (.slice ZZ20))],[.val .str],ujd_,false⟩
def uvg_:List (Nat×FSpec):=[(322,uit_),(361,uc1_),(489,umv_),(490,u9f_)]
theorem u7o_:FsOK Tryz.prog uvg_:=⟨uoc_,udf_,uxd_,ubx2_,trivial⟩
def ukl_:CSpec:=⟨⟨[3,4,8,9,10],[.val .str,.val (.int .i64),.val (.slice ZZ20),.val (.int .i64),.val (.int .i64)]⟩,[((.exit 0),⟨[3],[.val .str]⟩)],([3,4,6]++seg 10 31),ut9_,[]⟩
def ubjm_:Env:=mkE uvg_ [(0,ukl_)] [] false
theorem urg_:EnvOK Tryz.prog false ubjm_:=enk u7o_
def uhm_:Code:=uj_ Tryz.f487
theorem u52_:CutOK Tryz.prog false Tryz.f487.ntmps ukl_ (sub uhm_ [1,1,0,1,0]) :=
 lok (body:=sub uhm_ [1,1,0,1,0,0]) (n:=1) (l:=[]) urg_ trivial
theorem ulj_:uf_ Tryz.prog 487∧FunOK Tryz.prog 487 ugy_ :=
 fnk (c:=uhm_) (l:=[(ukl_,sub uhm_ [1,1,0,1,0])]) urg_ Tryz.func487 ⟨⟨by kernel_rfl,u52_⟩,trivial⟩
def ulk_:FSpec:=⟨[.val (.agg (.int .i64))],[.val .str],urh_,false⟩
def u53_:List (Nat×FSpec):=[(360,uc2_)]
theorem ubjn_:FsOK Tryz.prog u53_:=⟨udg_,trivial⟩
def ubx3_:Env:=mkE u53_ [] [] false
theorem ubnq_:EnvOK Tryz.prog false ubx3_:=enk ubjn_
def ubx4_:Code:=uj_ Tryz.f493
theorem usa_:uf_ Tryz.prog 493∧FunOK Tryz.prog 493 ulk_ :=
 fnk (c:=ubx4_) (l:=[]) ubnq_ Tryz.func493 trivial
def ubx5_:FSpec:=⟨[.val (.int .i64),.val .str],[.val .str,.val (.int .i64)],ucah_,false⟩
def ubx6_:List (Nat×FSpec):=[(198,umc_),(464,ujl_),(471,uiv_),(479,ujm_),(487,ugy_),(493,ulk_)]
theorem ub34_:FsOK Tryz.prog ubx6_:=⟨ura_,uqk_,uoj_,uql_,ulj_,usa_,trivial⟩
def ucfi_:Env:=mkE ubx6_ [] [] false
theorem ub7k_:EnvOK Tryz.prog false ucfi_:=enk ub34_
def ucfj_:Code:=uj_ Tryz.f301
theorem ucc5_:uf_ Tryz.prog 301∧FunOK Tryz.prog 301 ubx5_ :=
 fnk (c:=ucfj_) (l:=[]) ub7k_ Tryz.func301 trivial
def ud2_:FSpec:=⟨[.io 416 ZZ14,.val (.int .i64),.val (.int .i64),.hof false ZZ31 (.int .i64)],[],ub6_,false⟩
def ud3_:List (Nat×FSpec):=[]
theorem uiw_:FsOK Tryz.prog ud3_:=trivial
def ubs_:CSpec:=⟨⟨[0,1,3,9],[.own 416 ZZ14 true,.val (.int .i64),.hof false ZZ31 (.int .i64),.val (.int .i64)]⟩,[((.exit 2),⟨[0],[.own 416 ZZ14 true]⟩)],([9]++seg 18 35),ud0_,[]⟩
def ubt_:CSpec:=⟨⟨[0,1,2,3,8],[.own 416 ZZ14 true,.val (.int .i64),.val (.int .i64),.hof false ZZ31 (.int .i64),.val (.int .i64)]⟩,[((.exit 0),⟨[0],[.own 416 ZZ14 true]⟩)],([8,9]++seg 12 41),ud1_,[]⟩
def ukv_:Env:=mkE ud3_ [(2,ubs_),(0,ubt_)] [] false
theorem ubp_:EnvOK Tryz.prog false ukv_:=enk uiw_
def uq_:Code:=uj_ Tryz.f398
theorem uh9_:CutOK Tryz.prog false Tryz.f398.ntmps ubs_ (sub uq_ [1,0,0,1,0,0,1,0]) :=
 lok (body:=sub uq_ [1,0,0,1,0,0,1,0,0]) (n:=3) (l:=[]) ubp_ trivial
theorem uia_:CutOK Tryz.prog false Tryz.f398.ntmps ubt_ (sub uq_ [1,0]) :=
 lok (body:=sub uq_ [1,0,0]) (n:=1) (l:=[(ubs_,sub uq_ [1,0,0,1,0,0,1,0])]) ubp_ ⟨⟨by kernel_rfl,uh9_⟩,trivial⟩
theorem ukm_:uf_ Tryz.prog 398∧FunOK Tryz.prog 398 ud2_ :=
 fnk (c:=uq_) (l:=[(ubt_,sub uq_ [1,0])]) ubp_ Tryz.func398 ⟨⟨by kernel_rfl,uia_⟩,trivial⟩
def ue6_:FSpec:=⟨[.io 416 ZZ14,.val (.int .i64),.val (.int .i64),.val (.int .i64),.hof false ZZ31 (.int .i64)],[],ubr_,true⟩
def ue7_:List (Nat×FSpec):=[]
theorem ukw_:FsOK Tryz.prog ue7_:=trivial
def ub8_:CSpec:=⟨⟨[0,1,2,3,10],[.own 416 ZZ14 true,.val (.int .i64),.val (.int .i64),.val (.int .i64),.val (.int .i64)]⟩,[((.exit 0),⟨[0],[.own 416 ZZ14 true]⟩)],(seg 10 28),ue0_,[]⟩
def unq_:Env:=mkE ue7_ [(0,ub8_)] [] true
theorem ueo_:EnvOK Tryz.prog true unq_:=enk ukw_
def ubg_:Code:=uj_ Tryz.f431
theorem ukn_:CutOK Tryz.prog true Tryz.f431.ntmps ub8_ (sub ubg_ [1,0]) :=
 lok (body:=sub ubg_ [1,0,0]) (n:=1) (l:=[]) ueo_ trivial
theorem umw_:uf_ Tryz.prog 431∧FunOK Tryz.prog 431 ue6_ :=
 fnk (c:=ubg_) (l:=[(ub8_,sub ubg_ [1,0])]) ueo_ Tryz.func431 ⟨⟨by kernel_rfl,ukn_⟩,trivial⟩
def ugd_:FSpec:=⟨[.io 416 ZZ14,.val (.int .i64),.val (.int .i64),.val (.int .i64),.hof false ZZ31 (.int .i64)],[],ug9_,true⟩
def uge_:List (Nat×FSpec):=[(431,ue6_)]
theorem umx_:FsOK Tryz.prog uge_:=⟨umw_,trivial⟩
def ucx_:CSpec:=⟨⟨[0,2,4,10,11],[.own 416 ZZ14 true,.val (.int .i64),.hof false ZZ31 (.int .i64),.val (.int .i64),.val (.int .i64)]⟩,[((.exit 0),⟨[0,10],[.own 416 ZZ14 true,.val (.int .i64)]⟩)],([10,11]++seg 18 32),uf3_,[]⟩
def uqm_:Env:=mkE uge_ [(0,ucx_)] [] true
theorem ufh_:EnvOK Tryz.prog true uqm_:=enk umx_
def ubu_:Code:=uj_ Tryz.f415
theorem ul3_:CutOK Tryz.prog true Tryz.f415.ntmps ucx_ (sub ubu_ [1,1,0,0]) :=
 lok (body:=sub ubu_ [1,1,0,0,0]) (n:=1) (l:=[]) ufh_ trivial
theorem upe_:uf_ Tryz.prog 415∧FunOK Tryz.prog 415 ugd_ :=
 fnk (c:=ubu_) (l:=[(ucx_,sub ubu_ [1,1,0,0])]) ufh_ Tryz.func415 ⟨⟨by kernel_rfl,ul3_⟩,trivial⟩
def ug_ (n:Nat):FSpec:=⟨[.io 416 ZZ14,.val (.int .i64),.val (.int .i64),.val (.int .i64),.hof false ZZ31 (.int .i64)],[],uk_ n,false⟩
def ufi_:FSpec:=⟨[.io 416 ZZ14,.val (.int .i64),.val (.int .i64),.val (.int .i64),.hof false ZZ31 (.int .i64)],[],uc9_,false⟩
def ufj_ (n:Nat):List (Nat×FSpec):=[(399,(ug_ n)),(415,ugd_)]
theorem ull_ (n:Nat) (ih:uf_ Tryz.prog 399∧FunOK Tryz.prog 399 (ug_ n)):FsOK Tryz.prog (ufj_ n):=⟨ih,upe_,trivial⟩
def ucg_ (n:Nat):CSpec:=⟨⟨[0,1,4,10,11],[.own 416 ZZ14 true,.val (.int .i64),.hof false ZZ31 (.int .i64),.val (.int .i64),.val (.int .i64)]⟩,[((.exit 0),⟨[0,10],[.own 416 ZZ14 true,.val (.int .i64)]⟩)],([10,11,12]++seg 31 23),(ufe_ (uk_ n)),[]⟩
def uch_ (n:Nat):CSpec:=⟨⟨[0,10,13],[.own 416 ZZ14 true,.val (.int .i64),.val (.int .i64)]⟩,[((.exit 2),⟨[0],[.own 416 ZZ14 true]⟩)],([13]++seg 55 22),(uff_ (uk_ n)),[]⟩
def uci_ (n:Nat):CSpec:=⟨⟨[0,2,4,14,15],[.own 416 ZZ14 true,.val (.int .i64),.hof false ZZ31 (.int .i64),.val (.int .i64),.val (.int .i64)]⟩,[((.exit 4),⟨[0,14],[.own 416 ZZ14 true,.val (.int .i64)]⟩)],([14,15,16]++seg 83 24),(ufg_ (uk_ n)),[]⟩
def ub9_ (n:Nat):CSpec:=⟨⟨[0,14,17],[.own 416 ZZ14 true,.val (.int .i64),.val (.int .i64)]⟩,[((.exit 6),⟨[0],[.own 416 ZZ14 true]⟩)],([17]++seg 108 21),(ue1_ (uk_ n)),[]⟩
def uca_ (n:Nat):CSpec:=⟨⟨[1,2,3,18,19,140],[.val (.int .i64),.val (.int .i64),.val (.int .i64),.val (.int .i64),.val (.int .i64),.val .bool]⟩,[(.normal,⟨[20,21],[.val (.int .i64),.val (.int .i64)]⟩)],[20,21,141,142,143,144,145,146],(ue2_ (uk_ n)),[]⟩
def ucb_ (n:Nat):CSpec:=⟨⟨[0,4,20,21,22],[.own 416 ZZ14 true,.hof false ZZ31 (.int .i64),.val (.int .i64),.val (.int .i64),.val (.int .i64)]⟩,[((.exit 8),⟨[0,20],[.own 416 ZZ14 true,.val (.int .i64)]⟩)],([20,21,23]++seg 149 26),(ue3_ (uk_ n)),[]⟩
def ucc_ (n:Nat):CSpec:=⟨⟨[0,2,4,20,24,185],[.own 416 ZZ14 true,.val (.int .i64),.hof false ZZ31 (.int .i64),.val (.int .i64),.val (.int .i64),.val .bool]⟩,[(.normal,⟨[0],[.own 416 ZZ14 true]⟩)],[186,187,188,189,190,191],(ue4_ (uk_ n)),[]⟩
def ucd_ (n:Nat):CSpec:=⟨⟨[0,1,4,18,20,199],[.own 416 ZZ14 true,.val (.int .i64),.hof false ZZ31 (.int .i64),.val (.int .i64),.val (.int .i64),.val .bool]⟩,[(.normal,⟨[0],[.own 416 ZZ14 true]⟩)],[200,201,202,203,204,205],(ue5_ (uk_ n)),[]⟩
def uom_ (n:Nat):Env:=mkE (ufj_ n) [(1,(ucg_ n)),(4,(uch_ n)),(7,(uci_ n)),(10,(ub9_ n)),(12,(uca_ n)),(13,(ucb_ n)),(16,(ucc_ n)),(17,(ucd_ n))] [] false
theorem um_ (n:Nat) (ih:uf_ Tryz.prog 399∧FunOK Tryz.prog 399 (ug_ n)):EnvOK Tryz.prog false (uom_ n):=enk (ull_ n ih)
def ua_:Code:=uj_ Tryz.f399
theorem ukx_ (n:Nat) (ih:uf_ Tryz.prog 399∧FunOK Tryz.prog 399 (ug_ n)):CutOK Tryz.prog false Tryz.f399.ntmps (ucg_ n) (sub ua_ [0,1,0,1,1,0,0]) :=
 lok (body:=sub ua_ [0,1,0,1,1,0,0,0]) (n:=2) (l:=[]) (um_ n ih) trivial
theorem uky_ (n:Nat) (ih:uf_ Tryz.prog 399∧FunOK Tryz.prog 399 (ug_ n)):CutOK Tryz.prog false Tryz.f399.ntmps (uch_ n) (sub ua_ [0,1,0,1,1,1,0,1,0]) :=
 lok (body:=sub ua_ [0,1,0,1,1,1,0,1,0,0]) (n:=5) (l:=[]) (um_ n ih) trivial
theorem ukz_ (n:Nat) (ih:uf_ Tryz.prog 399∧FunOK Tryz.prog 399 (ug_ n)):CutOK Tryz.prog false Tryz.f399.ntmps (uci_ n) (sub ua_ [1,0,1,0,1,1,0,0]) :=
 lok (body:=sub ua_ [1,0,1,0,1,1,0,0,0]) (n:=8) (l:=[]) (um_ n ih) trivial
theorem uko_ (n:Nat) (ih:uf_ Tryz.prog 399∧FunOK Tryz.prog 399 (ug_ n)):CutOK Tryz.prog false Tryz.f399.ntmps (ub9_ n) (sub ua_ [1,0,1,0,1,1,1,0,1,0]) :=
 lok (body:=sub ua_ [1,0,1,0,1,1,1,0,1,0,0]) (n:=11) (l:=[]) (um_ n ih) trivial
theorem ukp_ (n:Nat) (ih:uf_ Tryz.prog 399∧FunOK Tryz.prog 399 (ug_ n)):CutOK Tryz.prog false Tryz.f399.ntmps (uca_ n) (sub ua_ [1,1,1,1,1,0,1]) :=
 brk (c:=umd_ (sub ua_ [1,1,1,1,1,0,1])) (x:=sub ua_ [1,1,1,1,1,0,1,0]) (y:=sub ua_ [1,1,1,1,1,0,1,1]) (n:=12) (lx:=[]) (ly:=[]) (um_ n ih) trivial trivial
theorem ukq_ (n:Nat) (ih:uf_ Tryz.prog 399∧FunOK Tryz.prog 399 (ug_ n)):CutOK Tryz.prog false Tryz.f399.ntmps (ucb_ n) (sub ua_ [1,1,1,1,1,1,1,0,0]) :=
 lok (body:=sub ua_ [1,1,1,1,1,1,1,0,0,0]) (n:=14) (l:=[]) (um_ n ih) trivial
theorem ukr_ (n:Nat) (ih:uf_ Tryz.prog 399∧FunOK Tryz.prog 399 (ug_ n)):CutOK Tryz.prog false Tryz.f399.ntmps (ucc_ n) (sub ua_ [1,1,1,1,1,1,1,1,1,0,1]) :=
 brk (c:=umd_ (sub ua_ [1,1,1,1,1,1,1,1,1,0,1])) (x:=sub ua_ [1,1,1,1,1,1,1,1,1,0,1,0]) (y:=sub ua_ [1,1,1,1,1,1,1,1,1,0,1,1]) (n:=16) (lx:=[]) (ly:=[]) (um_ n ih) trivial trivial
theorem uks_ (n:Nat) (ih:uf_ Tryz.prog 399∧FunOK Tryz.prog 399 (ug_ n)):CutOK Tryz.prog false Tryz.f399.ntmps (ucd_ n) (sub ua_ [1,1,1,1,1,1,1,1,1,1,0,1]) :=
 brk (c:=umd_ (sub ua_ [1,1,1,1,1,1,1,1,1,1,0,1])) (x:=sub ua_ [1,1,1,1,1,1,1,1,1,1,0,1,0]) (y:=sub ua_ [1,1,1,1,1,1,1,1,1,1,0,1,1]) (n:=17) (lx:=[]) (ly:=[]) (um_ n ih) trivial trivial
theorem ul4_ (n:Nat) (ih:uf_ Tryz.prog 399∧FunOK Tryz.prog 399 (ug_ n)):uf_ Tryz.prog 399∧FunOK Tryz.prog 399 (ug_ (n+1)) :=
 fnk (c:=ua_) (l:=[((ucg_ n),sub ua_ [0,1,0,1,1,0,0]),((uch_ n),sub ua_ [0,1,0,1,1,1,0,1,0]),((uci_ n),sub ua_ [1,0,1,0,1,1,0,0]),((ub9_ n),sub ua_ [1,0,1,0,1,1,1,0,1,0]),((uca_ n),sub ua_ [1,1,1,1,1,0,1]),((ucb_ n),sub ua_ [1,1,1,1,1,1,1,0,0]),((ucc_ n),sub ua_ [1,1,1,1,1,1,1,1,1,0,1]),((ucd_ n),sub ua_ [1,1,1,1,1,1,1,1,1,1,0,1])]) (um_ n ih) Tryz.func399 ⟨⟨by kernel_rfl,(ukx_ n ih)⟩,⟨by kernel_rfl,(uky_ n ih)⟩,⟨by kernel_rfl,(ukz_ n ih)⟩,⟨by kernel_rfl,(uko_ n ih)⟩,⟨by kernel_rfl,(ukp_ n ih)⟩,⟨by kernel_rfl,(ukq_ n ih)⟩,⟨by kernel_rfl,(ukr_ n ih)⟩,⟨by kernel_rfl,(uks_ n ih)⟩,trivial⟩
theorem ul5_:∀ n,uf_ Tryz.prog 399∧FunOK Tryz.prog 399 (ug_ n):=fun n=>Nat.rec ⟨⟨Tryz.f399,ua_,Tryz.func399,by kernel_rfl,by kernel_rfl⟩,fun w I v args bs _ _ _ r hr=>by cases hr⟩ (fun n ih=>ul4_ n ih) n
theorem unr_:uf_ Tryz.prog 399∧FunOK Tryz.prog 399 ufi_:=ul5_ 100
def ugf_:FSpec:=⟨[.io 416 ZZ14,.val (.int .i64),.hof false ZZ31 (.int .i64)],[],uha_,false⟩
def ugg_:List (Nat×FSpec):=[(398,ud2_),(399,ufi_)]
theorem umy_:FsOK Tryz.prog ugg_:=⟨ukm_,unr_,trivial⟩
def ucy_:CSpec:=⟨⟨[0,1,2,6,7,8],[.own 416 ZZ14 true,.val (.int .i64),.hof false ZZ31 (.int .i64),.val (.int .i64),.val (.int .i64),.val (.int .i64)]⟩,[((.exit 0),⟨[0,7],[.own 416 ZZ14 true,.val (.int .i64)]⟩)],([7,8]++seg 11 12),uf4_,[]⟩
def ucz_:CSpec:=⟨⟨[0,1,2,6,7,8],[.own 416 ZZ14 true,.val (.int .i64),.hof false ZZ31 (.int .i64),.val (.int .i64),.val (.int .i64),.val (.int .i64)]⟩,[((.exit 4),⟨[0,7],[.own 416 ZZ14 true,.val (.int .i64)]⟩)],([7,8]++seg 33 16),uf5_,[]⟩
def uc0_:CSpec:=⟨⟨[0,1,2,6],[.own 416 ZZ14 true,.val (.int .i64),.hof false ZZ31 (.int .i64),.val (.int .i64)]⟩,[((.exit 2),⟨[0],[.own 416 ZZ14 true]⟩)],([6,7,8,9]++seg 28 35),uf6_,[]⟩
def uqn_:Env:=mkE ugg_ [(0,ucy_),(4,ucz_),(2,uc0_)] [] false
theorem ubh_:EnvOK Tryz.prog false uqn_:=enk umy_
def uo_:Code:=uj_ Tryz.f362
theorem ul6_:CutOK Tryz.prog false Tryz.f362.ntmps ucy_ (sub uo_ [1,1,0,0]) :=
 lok (body:=sub uo_ [1,1,0,0,0]) (n:=1) (l:=[]) ubh_ trivial
theorem ul7_:CutOK Tryz.prog false Tryz.f362.ntmps ucz_ (sub uo_ [1,1,1,1,0,0,1,0,1,0,0]) :=
 lok (body:=sub uo_ [1,1,1,1,0,0,1,0,1,0,0,0]) (n:=5) (l:=[]) ubh_ trivial
theorem ul8_:CutOK Tryz.prog false Tryz.f362.ntmps uc0_ (sub uo_ [1,1,1,1,0]) :=
 lok (body:=sub uo_ [1,1,1,1,0,0]) (n:=3) (l:=[(ucz_,sub uo_ [1,1,1,1,0,0,1,0,1,0,0])]) ubh_ ⟨⟨by kernel_rfl,ul7_⟩,trivial⟩
theorem upf_:uf_ Tryz.prog 362∧FunOK Tryz.prog 362 ugf_ :=
 fnk (c:=uo_) (l:=[(ucy_,sub uo_ [1,1,0,0]),(uc0_,sub uo_ [1,1,1,1,0])]) ubh_ Tryz.func362 ⟨⟨by kernel_rfl,ul6_⟩,⟨by kernel_rfl,ul8_⟩,trivial⟩
def ufx_:FSpec:=⟨[.io 416 ZZ14,.hof false ZZ31 (.int .i64)],[],ug2_,false⟩
def ufy_:List (Nat×FSpec):=[(362,ugf_)]
theorem ul9_:FsOK Tryz.prog ufy_:=⟨upf_,trivial⟩
def upg_:Env:=mkE ufy_ [] [] false
theorem umz_:EnvOK Tryz.prog false upg_:=enk ul9_
def uph_:Code:=uj_ Tryz.f302
theorem uon_:uf_ Tryz.prog 302∧FunOK Tryz.prog 302 ufx_ :=
 fnk (c:=uph_) (l:=[]) umz_ Tryz.func302 trivial
def u0j_:FSpec:=⟨[.val ZZ14,.val ZZ14],[.val (.int .i64)],u8g_,true⟩
def u0k_:List (Nat×FSpec):=[(30,usn_),(31,ufa_),(46,uda_)]
theorem ubdd_:FsOK Tryz.prog u0k_:=⟨uzk_,ug6_,uer_,trivial⟩
def ubqe_:Env:=mkE u0k_ [] [] true
theorem ubfs_:EnvOK Tryz.prog true ubqe_:=enk ubdd_
def ubqf_:Code:=uj_ Tryz.f303
theorem ubnr_:uf_ Tryz.prog 303∧FunOK Tryz.prog 303 u0j_ :=
 fnk (c:=ubqf_) (l:=[]) ubfs_ Tryz.func303 trivial
def u9h_:FSpec:=⟨[.val (.agg ZZ16)],[.val (.slice ZZ14)],ubk6_,false⟩
def u9i_:List (Nat×FSpec):=[(246,uoh_),(300,ubhs_),(301,ubx5_),(302,ufx_),(303,u0j_)]
theorem ubns_:FsOK Tryz.prog u9i_:=⟨uvb_,ub31_,ucc5_,uon_,ubnr_,trivial⟩
def usb_:CSpec:=⟨⟨[1,3,8,9,10],[.box (.val ZZ16),.own 416 ZZ14 true,.val (.slice (.agg (.prod (.int .i64) .str))),.val (.int .i64),.val (.int .i64)]⟩,[((.exit 0),⟨[3],[.own 416 ZZ14 true]⟩)],([3,5,6]++seg 10 37),u8h_,[]⟩
def ub08_:Env:=mkE u9i_ [(0,usb_)] [] false
theorem u2r_:EnvOK Tryz.prog false ub08_:=enk ubns_
def upi_:Code:=uj_ Tryz.f255
theorem ubjo_:CutOK Tryz.prog false Tryz.f255.ntmps usb_ (sub upi_ [1,1,0,1,0]) :=
 lok (body:=sub upi_ [1,1,0,1,0,0]) (n:=1) (l:=[]) u2r_ trivial
theorem ubx7_:uf_ Tryz.prog 255∧FunOK Tryz.prog 255 u9h_ :=
 fnk (c:=upi_) (l:=[(usb_,sub upi_ [1,1,0,1,0])]) u2r_ Tryz.func255 ⟨⟨by kernel_rfl,ubjo_⟩,trivial⟩
def ubhu_:FSpec:=⟨[.val (.agg ZZ16)],[.val (.slice ZZ9)],ubv6_,false⟩
def ubhv_:List (Nat×FSpec):=[(246,uoh_),(255,u9h_)]
theorem ubt9_:FsOK Tryz.prog ubhv_:=⟨uvb_,ubx7_,trivial⟩
def uyg_:CSpec:=⟨⟨[3,4,5,15,16,17],[.own 402 ZZ9 false,.val .bool,.box (.val ZZ29),.val (.slice ZZ14),.val (.int .i64),.val (.int .i64)]⟩,[((.exit 0),⟨[3,4,5],[.own 402 ZZ9 false,.val .bool,.box (.val ZZ29)]⟩)],([3,4,7,8]++seg 17 39),ubgp_,[]⟩
def uyh_:CSpec:=⟨⟨[3,5,56],[.own 402 ZZ9 false,.box (.val ZZ29),.val .bool]⟩,[(.normal,⟨[3],[.own 402 ZZ9 false]⟩)],[3,57,58,59,60,61],ubgq_,[]⟩
def uyi_:CSpec:=⟨⟨[1,3,63,64,65],[.box (.val ZZ16),.own 402 ZZ9 false,.val (.slice .str),.val (.int .i64),.val (.int .i64)]⟩,[((.exit 3),⟨[3],[.own 402 ZZ9 false]⟩)],([3,10,11,12,13]++seg 65 20),ubgr_,[]⟩
def ub7l_:Env:=mkE ubhv_ [(0,uyg_),(5,uyh_),(6,uyi_)] [] false
theorem unh_:EnvOK Tryz.prog false ub7l_:=enk ubt9_
def uce_:Code:=uj_ Tryz.f197
theorem ubqg_:CutOK Tryz.prog false Tryz.f197.ntmps uyg_ (sub uce_ [1,1,1,1,0,1,0]) :=
 lok (body:=sub uce_ [1,1,1,1,0,1,0,0]) (n:=1) (l:=[]) unh_ trivial
theorem ubqh_:CutOK Tryz.prog false Tryz.f197.ntmps uyh_ (sub uce_ [1,1,1,1,1,0,1]) :=
 brk (c:=umd_ (sub uce_ [1,1,1,1,1,0,1])) (x:=sub uce_ [1,1,1,1,1,0,1,0]) (y:=sub uce_ [1,1,1,1,1,0,1,1]) (n:=5) (lx:=[]) (ly:=[]) unh_ trivial trivial
theorem ubqi_:CutOK Tryz.prog false Tryz.f197.ntmps uyi_ (sub uce_ [1,1,1,1,1,1,0,1,0]) :=
 lok (body:=sub uce_ [1,1,1,1,1,1,0,1,0,0]) (n:=7) (l:=[]) unh_ trivial
theorem ub35_:uf_ Tryz.prog 197∧FunOK Tryz.prog 197 ubhu_ :=
 fnk (c:=uce_) (l:=[(uyg_,sub uce_ [1,1,1,1,0,1,0]),(uyh_,sub uce_ [1,1,1,1,1,0,1]),(uyi_,sub uce_ [1,1,1,1,1,1,0,1,0])]) unh_ Tryz.func197 ⟨⟨by kernel_rfl,ubqg_⟩,⟨by kernel_rfl,ubqh_⟩,⟨by kernel_rfl,ubqi_⟩,trivial⟩
def uqo_:FSpec:=⟨[.val (.int .i64),.val (.agg ZZ29)],[.val .str,.val (.int .i64)],uj0_,false⟩
def u2s_:List (Nat×FSpec):=[(198,umc_),(463,ump_),(464,ujl_),(470,ula_),(471,uiv_),(478,ums_),(479,ujm_),(486,ui2_),(487,ugy_),(492,uog_),(493,ulk_)]
theorem ubft_:FsOK Tryz.prog u2s_:=⟨ura_,uw1_,uqk_,uu9_,uoj_,uw6_,uql_,urd_,ulj_,u0d_,usa_,trivial⟩
def ubua_:Env:=mkE u2s_ [] [] false
theorem ubjp_:EnvOK Tryz.prog false ubua_:=enk ubft_
def ubub_:Code:=uj_ Tryz.f248
theorem u2t_:uf_ Tryz.prog 248∧FunOK Tryz.prog 248 uqo_ :=
 fnk (c:=ubub_) (l:=[]) ubjp_ Tryz.func248 trivial
def uyj_:FSpec:=⟨[.val (.agg ZZ29),.val .str],[.val (.agg ZZ25)],u97_,true⟩
def ubde_:List (Nat×FSpec):=[]
theorem ubqj_:FsOK Tryz.prog ubde_:=trivial
def ub36_:Env:=mkE ubde_ [] [] true
theorem ubuc_:EnvOK Tryz.prog true ub36_:=enk ubqj_
def ub37_:Code:=uj_ Tryz.f249
theorem ubdf_:uf_ Tryz.prog 249∧FunOK Tryz.prog 249 uyj_ :=
 fnk (c:=ub37_) (l:=[]) ubuc_ Tryz.func249 trivial
def uvh_:FSpec:=⟨[.val (.agg ZZ29),.val .str],[.val (.agg ZZ25)],u4f_,true⟩
def u9j_:List (Nat×FSpec):=[]
theorem ubnt_:FsOK Tryz.prog u9j_:=trivial
def ub09_:Env:=mkE u9j_ [] [] true
theorem ubqk_:EnvOK Tryz.prog true ub09_:=enk ubnt_
def ub1a_:Code:=uj_ Tryz.f250
theorem u9k_:uf_ Tryz.prog 250∧FunOK Tryz.prog 250 uvh_ :=
 fnk (c:=ub1a_) (l:=[]) ubqk_ Tryz.func250 trivial
def ugq_:FSpec:=⟨[.val (.agg ZZ25),.val (.agg ZZ25)],[.val (.int .i64)],uc7_,true⟩
def u2u_:List (Nat×FSpec):=[(31,ufa_),(46,uda_)]
theorem ubfu_:FsOK Tryz.prog u2u_:=⟨ug6_,uer_,trivial⟩
def ubud_:Env:=mkE u2u_ [] [] true
theorem ubjq_:EnvOK Tryz.prog true ubud_:=enk ubfu_
def ubue_:Code:=uj_ Tryz.f251
theorem ujo_:uf_ Tryz.prog 251∧FunOK Tryz.prog 251 ugq_ :=
 fnk (c:=ubue_) (l:=[]) ubjq_ Tryz.func251 trivial
def u9l_:FSpec:=⟨[.val (.agg ZZ8),.val (.agg ZZ8)],[.val (.int .i64)],ubk7_,true⟩
def u9m_:List (Nat×FSpec):=[(251,ugq_)]
theorem ubnu_:FsOK Tryz.prog u9m_:=⟨ujo_,trivial⟩
def ub1b_:Env:=mkE u9m_ [] [] true
theorem ubql_:EnvOK Tryz.prog true ub1b_:=enk ubnu_
def ub1c_:Code:=uj_ Tryz.f253
theorem ubx8_:uf_ Tryz.prog 253∧FunOK Tryz.prog 253 u9l_ :=
 fnk (c:=ub1c_) (l:=[]) ubql_ Tryz.func253 trivial
def uxe_:FSpec:=⟨[.val (.agg ZZ8)],[.val (.int .i64),.val (.int .i64),.val .bool],u4g_,false⟩
def uxf_:List (Nat×FSpec):=[(314,ubn_)]
theorem uba0_:FsOK Tryz.prog uxf_:=⟨ubw_,trivial⟩
def ulm_:CSpec:=⟨⟨[1,5,10],[.box (.val ZZ8),.val (.int .i64),.val .bool]⟩,[(.normal,⟨[1,5],[.box (.val ZZ8),.val (.int .i64)]⟩)],([5]++seg 11 12),uwm_,[]⟩
def ubnv_:Env:=mkE uxf_ [(0,ulm_)] [] false
theorem usz_:EnvOK Tryz.prog false ubnv_:=enk uba0_
def ud4_:Code:=uj_ Tryz.f359
theorem u7p_:CutOK Tryz.prog false Tryz.f359.ntmps ulm_ (sub ud4_ [1,1,0,1]) :=
 brk (c:=umd_ (sub ud4_ [1,1,0,1])) (x:=sub ud4_ [1,1,0,1,0]) (y:=sub ud4_ [1,1,0,1,1]) (n:=0) (lx:=[]) (ly:=[]) usz_ trivial trivial
theorem ubjr_:uf_ Tryz.prog 359∧FunOK Tryz.prog 359 uxe_ :=
 fnk (c:=ud4_) (l:=[(ulm_,sub ud4_ [1,1,0,1])]) usz_ Tryz.func359 ⟨⟨by kernel_rfl,u7p_⟩,trivial⟩
def ubhw_:FSpec:=⟨[.val ZZ32],[.val ZZ32],ubv7_,false⟩
def ubhx_:List (Nat×FSpec):=[(359,uxe_),(360,uc2_),(361,uc1_)]
theorem ubuf_:FsOK Tryz.prog ubhx_:=⟨ubjr_,udg_,udf_,trivial⟩
def uyk_:CSpec:=⟨⟨[8,10,27],[.val (.int .i64),.box (.val ZZ25),.val .bool]⟩,[(.normal,⟨[10],[.box (.val ZZ25)]⟩)],[28,29,30,31,32],ubgs_,[]⟩
def uyl_:CSpec:=⟨⟨[3,4,11,12,13],[.own 408 (.agg ZZ8) true,.val (.int .i64),.val ZZ32,.val (.int .i64),.val (.int .i64)]⟩,[((.exit 0),⟨[3],[.own 408 (.agg ZZ8) true]⟩)],([3,4,6,7,8,9,10]++seg 13 48),ubgt_,[]⟩
def ub7m_:Env:=mkE ubhx_ [(3,uyk_),(0,uyl_)] [] false
theorem uvi_:EnvOK Tryz.prog false ub7m_:=enk ubuf_
def uep_:Code:=uj_ Tryz.f299
theorem ubqm_:CutOK Tryz.prog false Tryz.f299.ntmps uyk_ (sub uep_ [1,1,1,0,1,0,0,1,1,0,0,1,1,1,1,0,1]) :=
 brk (c:=umd_ (sub uep_ [1,1,1,0,1,0,0,1,1,0,0,1,1,1,1,0,1])) (x:=sub uep_ [1,1,1,0,1,0,0,1,1,0,0,1,1,1,1,0,1,0]) (y:=sub uep_ [1,1,1,0,1,0,0,1,1,0,0,1,1,1,1,0,1,1]) (n:=3) (lx:=[]) (ly:=[]) uvi_ trivial trivial
theorem ubqn_:CutOK Tryz.prog false Tryz.f299.ntmps uyl_ (sub uep_ [1,1,1,0,1,0]) :=
 lok (body:=sub uep_ [1,1,1,0,1,0,0]) (n:=1) (l:=[(uyk_,sub uep_ [1,1,1,0,1,0,0,1,1,0,0,1,1,1,1,0,1])]) uvi_ ⟨⟨by kernel_rfl,ubqm_⟩,trivial⟩
theorem ub38_:uf_ Tryz.prog 299∧FunOK Tryz.prog 299 ubhw_ :=
 fnk (c:=uep_) (l:=[(uyl_,sub uep_ [1,1,1,0,1,0])]) uvi_ Tryz.func299 ⟨⟨by kernel_rfl,ubqn_⟩,trivial⟩
def ubr7_:FSpec:=⟨[.val (.int .i64),.val ZZ32],[.val (.agg ZZ22),.val (.int .i64)],ub5u_,false⟩
def ubr8_:List (Nat×FSpec):=[(299,ubhw_)]
theorem ub1d_:FsOK Tryz.prog ubr8_:=⟨ub38_,trivial⟩
def u54_:CSpec:=⟨⟨[1,11],[.val ZZ32,.val .bool]⟩,[(.normal,⟨[1],[.val ZZ32]⟩)],[1,12,13],ubrg_,[]⟩
def u55_:CSpec:=⟨⟨[8,9,29],[.box (.val ZZ8),.box (.val (.prod (.agg ZZ29) (.agg ZZ29))),.val .bool]⟩,[(.normal,⟨[8,9],[.box (.val ZZ8),.box (.val (.prod (.agg ZZ29) (.agg ZZ29)))]⟩)],(seg 30 9),ubrh_,[]⟩
def u56_:CSpec:=⟨⟨[6,20,21,22],[.box (.pr (.val (.int .i64)) (.own 402 ZZ9 false)),.val ZZ32,.val (.int .i64),.val (.int .i64)]⟩,[((.exit 0),⟨[6],[.box (.pr (.val (.int .i64)) (.own 402 ZZ9 false))]⟩)],([8,9]++seg 22 36),ubri_,[]⟩
def ucc6_:Env:=mkE ubr8_ [(0,u54_),(4,u55_),(2,u56_)] [19] false
theorem url_:EnvOK Tryz.prog false ucc6_:=enk ub1d_
def ucr_:Code:=uj_ Tryz.f254
theorem ubx9_:CutOK Tryz.prog false Tryz.f254.ntmps u54_ (sub ucr_ [1,0,1]) :=
 brk (c:=umd_ (sub ucr_ [1,0,1])) (x:=sub ucr_ [1,0,1,0]) (y:=sub ucr_ [1,0,1,1]) (n:=0) (lx:=[]) (ly:=[]) url_ trivial trivial
theorem ubya_:CutOK Tryz.prog false Tryz.f254.ntmps u55_ (sub ucr_ [1,1,1,1,0,1,0,0,1,1,0,0,1,1,0,1]) :=
 brk (c:=umd_ (sub ucr_ [1,1,1,1,0,1,0,0,1,1,0,0,1,1,0,1])) (x:=sub ucr_ [1,1,1,1,0,1,0,0,1,1,0,0,1,1,0,1,0]) (y:=sub ucr_ [1,1,1,1,0,1,0,0,1,1,0,0,1,1,0,1,1]) (n:=4) (lx:=[]) (ly:=[]) url_ trivial trivial
theorem ubyb_:CutOK Tryz.prog false Tryz.f254.ntmps u56_ (sub ucr_ [1,1,1,1,0,1,0]) :=
 lok (body:=sub ucr_ [1,1,1,1,0,1,0,0]) (n:=3) (l:=[(u55_,sub ucr_ [1,1,1,1,0,1,0,0,1,1,0,0,1,1,0,1])]) url_ ⟨⟨by kernel_rfl,ubya_⟩,trivial⟩
theorem ub9k_:uf_ Tryz.prog 254∧FunOK Tryz.prog 254 ubr7_ :=
 fnk (c:=ucr_) (l:=[(u54_,sub ucr_ [1,0,1]),(u56_,sub ucr_ [1,1,1,1,0,1,0])]) url_ Tryz.func254 ⟨⟨by kernel_rfl,ubx9_⟩,⟨by kernel_rfl,ubyb_⟩,trivial⟩
def ubnw_:FSpec:=⟨[.val (.int .i64),.val (.slice ZZ9)],[.val (.agg ZZ22),.val (.int .i64)],ub15_,false⟩
def ubnx_:List (Nat×FSpec):=[(248,uqo_),(249,uyj_),(250,uvh_),(251,ugq_),(252,uij_),(253,u9l_),(254,ubr7_)]
theorem ubyc_:FsOK Tryz.prog ubnx_:=⟨u2t_,ubdf_,u9k_,ujo_,uud_,ubx8_,ub9k_,trivial⟩
def u1h_:CSpec:=⟨⟨[0,4,6,17,18,19],[.val (.int .i64),.box (.val ZZ22),.own 408 (.agg ZZ8) true,.val (.slice ZZ9),.val (.int .i64),.val (.int .i64)]⟩,[((.exit 0),⟨[4,6],[.box (.val ZZ22),.own 408 (.agg ZZ8) true]⟩),(.ret,⟨[4,5],[.box (.val ZZ22),.val (.int .i64)]⟩)],([5,6,8,9,10,11,12]++seg 19 46),ubk8_,[]⟩
def u1i_:CSpec:=⟨⟨[13,67,68,69],[.own 408 (.agg ZZ8) true,.own 408 (.agg ZZ8) true,.val (.int .i64),.val (.int .i64)]⟩,[((.exit 2),⟨[13],[.own 408 (.agg ZZ8) true]⟩)],([13,15,16]++seg 69 42),ubk9_,[]⟩
def ub9l_:Env:=mkE ubnx_ [(0,u1h_),(5,u1i_)] [] false
theorem uym_:EnvOK Tryz.prog false ub9l_:=enk ubyc_
def ui5_:Code:=uj_ Tryz.f196
theorem ubug_:CutOK Tryz.prog false Tryz.f196.ntmps u1h_ (sub ui5_ [1,1,0,1,0]) :=
 lok (body:=sub ui5_ [1,1,0,1,0,0]) (n:=1) (l:=[]) uym_ trivial
theorem ubuh_:CutOK Tryz.prog false Tryz.f196.ntmps u1i_ (sub ui5_ [1,1,1,1,1,0,1,0]) :=
 lok (body:=sub ui5_ [1,1,1,1,1,0,1,0,0]) (n:=6) (l:=[]) uym_ trivial
theorem ub7n_:uf_ Tryz.prog 196∧FunOK Tryz.prog 196 ubnw_ :=
 fnk (c:=ui5_) (l:=[(u1h_,sub ui5_ [1,1,0,1,0]),(u1i_,sub ui5_ [1,1,1,1,1,0,1,0])]) uym_ Tryz.func196 ⟨⟨by kernel_rfl,ubug_⟩,⟨by kernel_rfl,ubuh_⟩,trivial⟩
def u9n_:FSpec:=⟨[.val (.agg ZZ16)],[.val (.agg ZZ22),.val (.int .i64)],ubla_,false⟩
def u9o_:List (Nat×FSpec):=[(195,usu_),(196,ubnw_),(197,ubhu_)]
theorem ubny_:FsOK Tryz.prog u9o_:=⟨ubc4_,ub7n_,ub35_,trivial⟩
def ub1e_:Env:=mkE u9o_ [] [] false
theorem ubqo_:EnvOK Tryz.prog false ub1e_:=enk ubny_
def ub1f_:Code:=uj_ Tryz.f151
theorem ubyd_:uf_ Tryz.prog 151∧FunOK Tryz.prog 151 u9n_ :=
 fnk (c:=ub1f_) (l:=[]) ubqo_ Tryz.func151 trivial
def uyn_:FSpec:=⟨[.val (.agg ZZ3)],[.val (.slice (.agg ZZ22)),.val (.int .i64)],u98_,false⟩
def ubdg_:List (Nat×FSpec):=[(124,u1b_),(149,u48_),(150,uuq_),(151,u9n_)]
theorem ubqp_:FsOK Tryz.prog ubdg_:=⟨ubhh_,ubmk_,ubet_,ubyd_,trivial⟩
def uvj_:CSpec:=⟨⟨[1,37],[.box (.val ZZ3),.val .bool]⟩,[(.normal,⟨[1],[.box (.val ZZ3)]⟩),(.ret,⟨[2,3],[.val (.slice (.agg ZZ22)),.val (.int .i64)]⟩)],([2,3,5,6]++seg 38 9),ubbt_,[]⟩
def uvk_:CSpec:=⟨⟨[7,52,53,54],[.own 211 (.agg ZZ22) false,.val (.slice (.agg ZZ16)),.val (.int .i64),.val (.int .i64)]⟩,[((.exit 1),⟨[7],[.own 211 (.agg ZZ22) false]⟩),(.ret,⟨[2,3],[.val (.slice (.agg ZZ22)),.val (.int .i64)]⟩)],([2,3,7,9,10,11]++seg 54 17),ubbu_,[]⟩
def ub39_:Env:=mkE ubdg_ [(4,uvj_),(7,uvk_)] [] false
theorem usc_:EnvOK Tryz.prog false ub39_:=enk ubqp_
def udk_:Code:=uj_ Tryz.f112
theorem ubnz_:CutOK Tryz.prog false Tryz.f112.ntmps uvj_ (sub udk_ [1,1,1,1,0,1]) :=
 brk (c:=umd_ (sub udk_ [1,1,1,1,0,1])) (x:=sub udk_ [1,1,1,1,0,1,0]) (y:=sub udk_ [1,1,1,1,0,1,1]) (n:=4) (lx:=[]) (ly:=[]) usc_ trivial trivial
theorem ubn0_:CutOK Tryz.prog false Tryz.f112.ntmps uvk_ (sub udk_ [1,1,1,1,1,1,1,0,1,0]) :=
 lok (body:=sub udk_ [1,1,1,1,1,1,1,0,1,0,0]) (n:=8) (l:=[]) usc_ trivial
theorem ubdh_:uf_ Tryz.prog 112∧FunOK Tryz.prog 112 uyn_ :=
 fnk (c:=udk_) (l:=[(uvj_,sub udk_ [1,1,1,1,0,1]),(uvk_,sub udk_ [1,1,1,1,1,1,1,0,1,0])]) usc_ Tryz.func112 ⟨⟨by kernel_rfl,ubnz_⟩,⟨by kernel_rfl,ubn0_⟩,trivial⟩
def ubhy_:FSpec:=⟨[.val (.agg ZZ3)],[.val (.int .i64)],ubv8_,false⟩
def ubhz_:List (Nat×FSpec):=[(112,uyn_)]
theorem ubui_:FsOK Tryz.prog ubhz_:=⟨ubdh_,trivial⟩
def ub7o_:Env:=mkE ubhz_ [] [] false
theorem ubye_:EnvOK Tryz.prog false ub7o_:=enk ubui_
def ub7p_:Code:=uj_ Tryz.f105
theorem ub4a_:uf_ Tryz.prog 105∧FunOK Tryz.prog 105 ubhy_ :=
 fnk (c:=ub7p_) (l:=[]) ubye_ Tryz.func105 trivial
def uqp_:FSpec:=⟨[.val (.agg ZZ34)],[.val (.int .i64)],uxz_,false⟩
def u2v_:List (Nat×FSpec):=[(105,ubhy_)]
theorem ubfv_:FsOK Tryz.prog u2v_:=⟨ub4a_,trivial⟩
def uoo_:CSpec:=⟨⟨[1,29,30,31],[.box (.val ZZ34),.val (.slice (.agg ZZ3)),.val (.int .i64),.val (.int .i64)]⟩,[((.exit 1),⟨[],[]⟩),(.ret,⟨[2],[.val (.int .i64)]⟩)],([2,3,4,5]++seg 31 43),u14_,[]⟩
def ubuj_:Env:=mkE u2v_ [(3,uoo_)] [] false
theorem uxg_:EnvOK Tryz.prog false ubuj_:=enk ubfv_
def uln_:Code:=uj_ Tryz.f81
theorem ubdi_:CutOK Tryz.prog false Tryz.f81.ntmps uoo_ (sub uln_ [1,1,0,1,0]) :=
 lok (body:=sub uln_ [1,1,0,1,0,0]) (n:=4) (l:=[]) uxg_ trivial
theorem u2w_:uf_ Tryz.prog 81∧FunOK Tryz.prog 81 uqp_ :=
 fnk (c:=uln_) (l:=[(uoo_,sub uln_ [1,1,0,1,0])]) uxg_ Tryz.func81 ⟨⟨by kernel_rfl,ubdi_⟩,trivial⟩
def u2x_:FSpec:=⟨[.val (.agg ZZ5)],[.val (.int .i64)],ubbv_,true⟩
def u2y_:List (Nat×FSpec):=[]
theorem ubfw_:FsOK Tryz.prog u2y_:=trivial
def ubuk_:Env:=mkE u2y_ [] [] true
theorem ubjs_:EnvOK Tryz.prog true ubuk_:=enk ubfw_
def ubul_:Code:=uj_ Tryz.f82
theorem ubqq_:uf_ Tryz.prog 82∧FunOK Tryz.prog 82 u2x_ :=
 fnk (c:=ubul_) (l:=[]) ubjs_ Tryz.func82 trivial
def ubr9_:FSpec:=⟨[.val .str],[.val .bool],ub5x_,true⟩
def ubsa_:List (Nat×FSpec):=[]
theorem ub1g_:FsOK Tryz.prog ubsa_:=trivial
def u57_:CSpec:=⟨⟨[0,6,7],[.val .str,.val (.int .i64),.val (.int .i64)]⟩,[((.exit 0),⟨[],[]⟩),(.ret,⟨[2],[.val .bool]⟩)],([2,3,4]++seg 7 42),ubrj_,[]⟩
def ucc7_:Env:=mkE ubsa_ [(0,u57_)] [] true
theorem ubh0_:EnvOK Tryz.prog true ucc7_:=enk ub1g_
def u3g_:Code:=uj_ Tryz.f106
theorem ubyf_:CutOK Tryz.prog true Tryz.f106.ntmps u57_ (sub u3g_ [1,0,1,0]) :=
 lok (body:=sub u3g_ [1,0,1,0,0]) (n:=1) (l:=[]) ubh0_ trivial
theorem ub9m_:uf_ Tryz.prog 106∧FunOK Tryz.prog 106 ubr9_ :=
 fnk (c:=u3g_) (l:=[(u57_,sub u3g_ [1,0,1,0])]) ubh0_ Tryz.func106 ⟨⟨by kernel_rfl,ubyf_⟩,trivial⟩
def u58_:FSpec:=⟨[.val .str],[.val .bool],ubgu_,true⟩
def u59_:List (Nat×FSpec):=[]
theorem ubjt_:FsOK Tryz.prog u59_:=trivial
def uqq_:CSpec:=⟨⟨[0,5,6],[.val .str,.val (.int .i64),.val (.int .i64)]⟩,[((.exit 0),⟨[],[]⟩),(.ret,⟨[2],[.val .bool]⟩)],([2,3]++seg 6 14),u4h_,[]⟩
def ubyg_:Env:=mkE u59_ [(0,uqq_)] [] true
theorem u0l_:EnvOK Tryz.prog true ubyg_:=enk ubjt_
def uni_:Code:=uj_ Tryz.f107
theorem ubfx_:CutOK Tryz.prog true Tryz.f107.ntmps uqq_ (sub uni_ [1,0,1,0]) :=
 lok (body:=sub uni_ [1,0,1,0,0]) (n:=1) (l:=[]) u0l_ trivial
theorem ubum_:uf_ Tryz.prog 107∧FunOK Tryz.prog 107 u58_ :=
 fnk (c:=uni_) (l:=[(uqq_,sub uni_ [1,0,1,0])]) u0l_ Tryz.func107 ⟨⟨by kernel_rfl,ubfx_⟩,trivial⟩
def us0_:FSpec:=⟨[.val ZZ23],[.val (.int .i64)],uzh_,true⟩
def us1_:List (Nat×FSpec):=[(106,ubr9_),(107,u58_)]
theorem u6a_:FsOK Tryz.prog us1_:=⟨ub9m_,ubum_,trivial⟩
def ubfy_:Env:=mkE us1_ [] [] true
theorem u7q_:EnvOK Tryz.prog true ubfy_:=enk u6a_
def ubfz_:Code:=uj_ Tryz.f83
theorem ubdj_:uf_ Tryz.prog 83∧FunOK Tryz.prog 83 us0_ :=
 fnk (c:=ubfz_) (l:=[]) u7q_ Tryz.func83 trivial
def ubn1_:FSpec:=⟨[.val (.agg ZZ5)],[.val (.int .i64)],ub16_,false⟩
def ubn2_:List (Nat×FSpec):=[(80,ubes_),(81,uqp_),(82,u2x_),(83,us0_)]
theorem ubyh_:FsOK Tryz.prog ubn2_:=⟨ubth_,u2w_,ubqq_,ubdj_,trivial⟩
def u1j_:CSpec:=⟨⟨[39,40,41],[.val (.slice ZZ23),.val (.int .i64),.val (.int .i64)]⟩,[((.exit 0),⟨[],[]⟩),(.ret,⟨[2],[.val (.int .i64)]⟩)],([2,7,8]++seg 41 10),ublb_,[]⟩
def ub9n_:Env:=mkE ubn2_ [(5,u1j_)] [] false
theorem ubdk_:EnvOK Tryz.prog false ub9n_:=enk ubyh_
def uy2_:Code:=uj_ Tryz.f55
theorem ubun_:CutOK Tryz.prog false Tryz.f55.ntmps u1j_ (sub uy2_ [1,1,1,1,1,1,0,1,0]) :=
 lok (body:=sub uy2_ [1,1,1,1,1,1,0,1,0,0]) (n:=6) (l:=[]) ubdk_ trivial
theorem ub7q_:uf_ Tryz.prog 55∧FunOK Tryz.prog 55 ubn1_ :=
 fnk (c:=uy2_) (l:=[(u1j_,sub uy2_ [1,1,1,1,1,1,0,1,0])]) ubdk_ Tryz.func55 ⟨⟨by kernel_rfl,ubun_⟩,trivial⟩
def ubn3_:FSpec:=⟨[.val (.int .i64),.val .str],[.val (.int .i64)],ub17_,false⟩
def ubn4_:List (Nat×FSpec):=[(198,umc_)]
theorem ubyi_:FsOK Tryz.prog ubn4_:=⟨ura_,trivial⟩
def ub9o_:Env:=mkE ubn4_ [] [] false
theorem ub1h_:EnvOK Tryz.prog false ub9o_:=enk ubyi_
def ub9p_:Code:=uj_ Tryz.f152
theorem ub7r_:uf_ Tryz.prog 152∧FunOK Tryz.prog 152 ubn3_ :=
 fnk (c:=ub9p_) (l:=[]) ub1h_ Tryz.func152 trivial
def u2z_:FSpec:=⟨[.val ZZ9,.val ZZ32],[.val (.int .i64)],ubbw_,false⟩
def u20_:List (Nat×FSpec):=[(314,ubn_)]
theorem ubf0_:FsOK Tryz.prog u20_:=⟨ubw_,trivial⟩
def ubuo_:Env:=mkE u20_ [] [] false
theorem ubju_:EnvOK Tryz.prog false ubuo_:=enk ubf0_
def ubup_:Code:=uj_ Tryz.f262
theorem ubqr_:uf_ Tryz.prog 262∧FunOK Tryz.prog 262 u2z_ :=
 fnk (c:=ubup_) (l:=[]) ubju_ Tryz.func262 trivial
def u6b_:FSpec:=⟨[.val (.agg ZZ22)],[.val ZZ32,.val (.int .i64)],ubgv_,false⟩
def u6c_:List (Nat×FSpec):=[(248,uqo_),(249,uyj_),(250,uvh_),(251,ugq_),(262,u2z_)]
theorem ubjv_:FsOK Tryz.prog u6c_:=⟨u2t_,ubdf_,u9k_,ujo_,ubqr_,trivial⟩
def uqr_:CSpec:=⟨⟨[1,4,25,26,27],[.box (.val ZZ22),.own 408 (.agg ZZ8) false,.val (.slice ZZ9),.val (.int .i64),.val (.int .i64)]⟩,[((.exit 0),⟨[4],[.own 408 (.agg ZZ8) false]⟩),(.ret,⟨[2,3],[.val ZZ32,.val (.int .i64)]⟩)],([2,3,4,6,7,8,9,10,11]++seg 27 73),u4i_,[]⟩
def ubyj_:Env:=mkE u6c_ [(2,uqr_)] [] false
theorem u0m_:EnvOK Tryz.prog false ubyj_:=enk ubjv_
def unj_:Code:=uj_ Tryz.f199
theorem ubf1_:CutOK Tryz.prog false Tryz.f199.ntmps uqr_ (sub unj_ [1,1,1,1,0,1,0]) :=
 lok (body:=sub unj_ [1,1,1,1,0,1,0,0]) (n:=3) (l:=[]) u0m_ trivial
theorem ubuq_:uf_ Tryz.prog 199∧FunOK Tryz.prog 199 u6b_ :=
 fnk (c:=unj_) (l:=[(uqr_,sub unj_ [1,1,1,1,0,1,0])]) u0m_ Tryz.func199 ⟨⟨by kernel_rfl,ubf1_⟩,trivial⟩
def u6d_:FSpec:=⟨[.val (.agg ZZ8),.val (.ptr (.agg ZZ25))],[.val .bool],ubgw_,true⟩
def u6e_:List (Nat×FSpec):=[(251,ugq_)]
theorem ubjw_:FsOK Tryz.prog u6e_:=⟨ujo_,trivial⟩
def ubyk_:Env:=mkE u6e_ [] [] true
theorem ubn5_:EnvOK Tryz.prog true ubyk_:=enk ubjw_
def ubyl_:Code:=uj_ Tryz.f264
theorem ubur_:uf_ Tryz.prog 264∧FunOK Tryz.prog 264 u6d_ :=
 fnk (c:=ubyl_) (l:=[]) ubn5_ Tryz.func264 trivial
def uhx_:FSpec:=⟨[.val ZZ32,.hof false (.agg ZZ8) .bool],[.val (.int .i64)],uj1_,false⟩
def uhy_:List (Nat×FSpec):=[]
theorem uqs_:FsOK Tryz.prog uhy_:=trivial
def udx_:CSpec:=⟨⟨[0,1,7,8],[.val ZZ32,.hof false (.agg ZZ8) .bool,.val (.int .i64),.val (.int .i64)]⟩,[((.exit 0),⟨[],[]⟩),(.ret,⟨[4],[.val (.int .i64)]⟩)],([4,5]++seg 8 11),uhu_,[]⟩
def uvl_:Env:=mkE uhy_ [(0,udx_)] [] false
theorem ug4_:EnvOK Tryz.prog false uvl_:=enk uqs_
def ucs_:Code:=uj_ Tryz.f263
theorem upj_:CutOK Tryz.prog false Tryz.f263.ntmps udx_ (sub ucs_ [1,0,1,0]) :=
 lok (body:=sub ucs_ [1,0,1,0,0]) (n:=1) (l:=[]) ug4_ trivial
theorem utj_:uf_ Tryz.prog 263∧FunOK Tryz.prog 263 uhx_ :=
 fnk (c:=ucs_) (l:=[(udx_,sub ucs_ [1,0,1,0])]) ug4_ Tryz.func263 ⟨⟨by kernel_rfl,upj_⟩,trivial⟩
def ubh1_:FSpec:=⟨[.val ZZ32,.val .str],[.val (.int .i64)],ubv9_,false⟩
def ubh2_:List (Nat×FSpec):=[(263,uhx_),(264,u6d_)]
theorem ubus_:FsOK Tryz.prog ubh2_:=⟨utj_,ubur_,trivial⟩
def ub7s_:Env:=mkE ubh2_ [] [] false
theorem ubym_:EnvOK Tryz.prog false ub7s_:=enk ubus_
def ub7t_:Code:=uj_ Tryz.f200
theorem ub4b_:uf_ Tryz.prog 200∧FunOK Tryz.prog 200 ubh1_ :=
 fnk (c:=ub7t_) (l:=[]) ubym_ Tryz.func200 trivial
def u9p_:FSpec:=⟨[.val (.agg ZZ22),.val .str],[.val .bool,.val (.int .i64)],ublc_,false⟩
def u9q_:List (Nat×FSpec):=[(198,umc_),(199,u6b_),(200,ubh1_),(464,ujl_),(471,uiv_),(479,ujm_),(487,ugy_),(493,ulk_)]
theorem ubn6_:FsOK Tryz.prog u9q_:=⟨ura_,ubuq_,ub4b_,uqk_,uoj_,uql_,ulj_,usa_,trivial⟩
def ub1i_:Env:=mkE u9q_ [] [] false
theorem ubqs_:EnvOK Tryz.prog false ub1i_:=enk ubn6_
def ub1j_:Code:=uj_ Tryz.f153
theorem ubyn_:uf_ Tryz.prog 153∧FunOK Tryz.prog 153 u9p_ :=
 fnk (c:=ub1j_) (l:=[]) ubqs_ Tryz.func153 trivial
def u9r_:FSpec:=⟨[.val (.agg ZZ16),.val (.agg ZZ22),.val .str,.val .str],[.val .bool],ubld_,false⟩
def u9s_:List (Nat×FSpec):=[(152,ubn3_),(153,u9p_)]
theorem ubn7_:FsOK Tryz.prog u9s_:=⟨ub7r_,ubyn_,trivial⟩
def ub1k_:Env:=mkE u9s_ [] [] false
theorem ubqt_:EnvOK Tryz.prog false ub1k_:=enk ubn7_
def ub1l_:Code:=uj_ Tryz.f113
theorem ubyo_:uf_ Tryz.prog 113∧FunOK Tryz.prog 113 u9r_ :=
 fnk (c:=ub1l_) (l:=[]) ubqt_ Tryz.func113 trivial
def u0n_:FSpec:=⟨[.val (.agg ZZ15),.val (.agg ZZ15)],[.val (.int .i64)],u8i_,true⟩
def u0o_:List (Nat×FSpec):=[(30,usn_),(31,ufa_)]
theorem ubdl_:FsOK Tryz.prog u0o_:=⟨uzk_,ug6_,trivial⟩
def ubqu_:Env:=mkE u0o_ [] [] true
theorem ubf2_:EnvOK Tryz.prog true ubqu_:=enk ubdl_
def ubqv_:Code:=uj_ Tryz.f115
theorem ubn8_:uf_ Tryz.prog 115∧FunOK Tryz.prog 115 u0n_ :=
 fnk (c:=ubqv_) (l:=[]) ubf2_ Tryz.func115 trivial
def u9t_:FSpec:=⟨[.val (.agg ZZ3),.val (.agg ZZ13),.val (.map .str ZZ18)],[.val (.slice (.agg ZZ15))],uble_,false⟩
def u9u_:List (Nat×FSpec):=[(112,uyn_),(113,u9r_),(114,uj3_),(115,u0n_)]
theorem ubn9_:FsOK Tryz.prog u9u_:=⟨ubdh_,ubyo_,ux2_,ubn8_,trivial⟩
def usd_:CSpec:=⟨⟨[4,7,9,10,11,30,31,32],[.box (.val ZZ13),.val (.slice (.agg ZZ22)),.own 160 (.agg ZZ15) true,.val (.int .i64),.box (.val ZZ16),.val ZZ18,.val (.int .i64),.val (.int .i64)]⟩,[((.exit 2),⟨[4,9],[.box (.val ZZ13),.own 160 (.agg ZZ15) true]⟩)],([9,13]++seg 32 26),u8j_,[]⟩
def use_:CSpec:=⟨⟨[2,4,7,9,20,21,22],[.val (.map .str ZZ18),.box (.val ZZ13),.val (.slice (.agg ZZ22)),.own 160 (.agg ZZ15) true,.val (.slice (.agg ZZ16)),.val (.int .i64),.val (.int .i64)]⟩,[((.exit 0),⟨[9],[.own 160 (.agg ZZ15) true]⟩)],([9,10,11,13]++seg 22 37),u8k_,[]⟩
def ub1m_:Env:=mkE u9u_ [(2,usd_),(0,use_)] [] false
theorem uqt_:EnvOK Tryz.prog false ub1m_:=enk ubn9_
def ufd_:Code:=uj_ Tryz.f85
theorem ubjx_:CutOK Tryz.prog false Tryz.f85.ntmps usd_ (sub ufd_ [1,1,1,0,1,0,0,1,1,0,0,1,1,0]) :=
 lok (body:=sub ufd_ [1,1,1,0,1,0,0,1,1,0,0,1,1,0,0]) (n:=3) (l:=[]) uqt_ trivial
theorem ubjy_:CutOK Tryz.prog false Tryz.f85.ntmps use_ (sub ufd_ [1,1,1,0,1,0]) :=
 lok (body:=sub ufd_ [1,1,1,0,1,0,0]) (n:=1) (l:=[(usd_,sub ufd_ [1,1,1,0,1,0,0,1,1,0,0,1,1,0])]) uqt_ ⟨⟨by kernel_rfl,ubjx_⟩,trivial⟩
theorem ubyp_:uf_ Tryz.prog 85∧FunOK Tryz.prog 85 u9t_ :=
 fnk (c:=ufd_) (l:=[(use_,sub ufd_ [1,1,1,0,1,0])]) uqt_ Tryz.func85 ⟨⟨by kernel_rfl,ubjy_⟩,trivial⟩
def ubh3_:FSpec:=⟨[.val (.agg ZZ34),.val (.agg ZZ13)],[.val ZZ35,.val (.int .i64)],ubwc_,false⟩
def ubh4_:List (Nat×FSpec):=[(80,ubes_),(81,uqp_),(84,ub0o_),(85,u9t_)]
theorem ubut_:FsOK Tryz.prog ubh4_:=⟨ubth_,u2w_,ucav_,ubyp_,trivial⟩
def uyo_:CSpec:=⟨⟨[8,30,31,32],[.og 3 .str (.int .i64),.val (.slice ZZ2),.val (.int .i64),.val (.int .i64)]⟩,[((.exit 0),⟨[8],[.og 3 .str (.int .i64)]⟩)],([9,10,11,12]++seg 32 20),ubgx_,[]⟩
def uyp_:CSpec:=⟨⟨[3,13,15,64,65,66],[.box (.val ZZ13),.own 126 (.agg ZZ6) false,.box (.val ZZ3),.val (.slice (.agg ZZ15)),.val (.int .i64),.val (.int .i64)]⟩,[((.exit 4),⟨[3,13],[.box (.val ZZ13),.own 126 (.agg ZZ6) false]⟩),(.ret,⟨[4,5],[.val ZZ35,.val (.int .i64)]⟩)],([4,5,13,17]++seg 66 23),ubgy_,[]⟩
def uyq_:CSpec:=⟨⟨[3,8,13,53,54,55],[.box (.val ZZ13),.val (.map .str ZZ18),.own 126 (.agg ZZ6) false,.val (.slice (.agg ZZ3)),.val (.int .i64),.val (.int .i64)]⟩,[((.exit 2),⟨[13],[.own 126 (.agg ZZ6) false]⟩),(.ret,⟨[4,5],[.val ZZ35,.val (.int .i64)]⟩)],([4,5,13,15,17]++seg 55 35),ubgz_,[]⟩
def ub7u_:Env:=mkE ubh4_ [(2,uyo_),(7,uyp_),(4,uyq_)] [28,47] false
theorem unk_:EnvOK Tryz.prog false ub7u_:=enk ubut_
def udh_:Code:=uj_ Tryz.f56
theorem ubqw_:CutOK Tryz.prog false Tryz.f56.ntmps uyo_ (sub udh_ [1,1,1,1,0,1,0]) :=
 lok (body:=sub udh_ [1,1,1,1,0,1,0,0]) (n:=3) (l:=[]) unk_ trivial
theorem ubqx_:CutOK Tryz.prog false Tryz.f56.ntmps uyp_ (sub udh_ [1,1,1,1,1,1,0,1,0,0,1,1,0,0,1,1,1,0]) :=
 lok (body:=sub udh_ [1,1,1,1,1,1,0,1,0,0,1,1,0,0,1,1,1,0,0]) (n:=8) (l:=[]) unk_ trivial
theorem ubqy_:CutOK Tryz.prog false Tryz.f56.ntmps uyq_ (sub udh_ [1,1,1,1,1,1,0,1,0]) :=
 lok (body:=sub udh_ [1,1,1,1,1,1,0,1,0,0]) (n:=5) (l:=[(uyp_,sub udh_ [1,1,1,1,1,1,0,1,0,0,1,1,0,0,1,1,1,0])]) unk_ ⟨⟨by kernel_rfl,ubqx_⟩,trivial⟩
theorem ub4c_:uf_ Tryz.prog 56∧FunOK Tryz.prog 56 ubh3_ :=
 fnk (c:=udh_) (l:=[(uyo_,sub udh_ [1,1,1,1,0,1,0]),(uyq_,sub udh_ [1,1,1,1,1,1,0,1,0])]) unk_ Tryz.func56 ⟨⟨by kernel_rfl,ubqw_⟩,⟨by kernel_rfl,ubqy_⟩,trivial⟩
def ubdm_:FSpec:=⟨[.val (.agg ZZ5)],[.fz (.ptr ZZ1)],ubrk_,true⟩
def ubdn_:List (Nat×FSpec):=[]
theorem ubqz_:FsOK Tryz.prog ubdn_:=trivial
def uvm_:CSpec:=⟨⟨[3,23,24,25],[.box (.pr (.val (.agg ZZ5)) (.pr (.omap .str (.agg ZZ3)) (.pr (.omap .str ZZ2) (.pr (.omap .str .bool) (.omap (.agg ZZ6) .bool))))),.val (.slice (.agg ZZ3)),.val (.int .i64),.val (.int .i64)]⟩,[((.exit 0),⟨[3],[.box (.pr (.val (.agg ZZ5)) (.pr (.omap .str (.agg ZZ3)) (.pr (.omap .str ZZ2) (.pr (.omap .str .bool) (.omap (.agg ZZ6) .bool)))))]⟩)],([5]++seg 25 12),ubbx_,[]⟩
def uvn_:CSpec:=⟨⟨[3,39,40,41],[.box (.pr (.val (.agg ZZ5)) (.pr (.omap .str (.agg ZZ3)) (.pr (.omap .str ZZ2) (.pr (.omap .str .bool) (.omap (.agg ZZ6) .bool))))),.val (.slice ZZ2),.val (.int .i64),.val (.int .i64)]⟩,[((.exit 2),⟨[3],[.box (.pr (.val (.agg ZZ5)) (.pr (.omap .str (.agg ZZ3)) (.pr (.omap .str ZZ2) (.pr (.omap .str .bool) (.omap (.agg ZZ6) .bool)))))]⟩)],([7]++seg 41 12),ubby_,[]⟩
def uvo_:CSpec:=⟨⟨[1,3,55,56,57],[.box (.val ZZ5),.box (.pr (.val (.agg ZZ5)) (.pr (.omap .str (.agg ZZ3)) (.pr (.omap .str ZZ2) (.pr (.omap .str .bool) (.omap (.agg ZZ6) .bool))))),.val ZZ35,.val (.int .i64),.val (.int .i64)]⟩,[((.exit 4),⟨[1,3],[.box (.val ZZ5),.box (.pr (.val (.agg ZZ5)) (.pr (.omap .str (.agg ZZ3)) (.pr (.omap .str ZZ2) (.pr (.omap .str .bool) (.omap (.agg ZZ6) .bool)))))]⟩)],([9]++seg 57 19),ubbz_,[]⟩
def ub4d_:Env:=mkE ubdn_ [(0,uvm_),(2,uvn_),(4,uvo_)] [19] true
theorem ulo_:EnvOK Tryz.prog true ub4d_:=enk ubqz_
def uc3_:Code:=uj_ Tryz.f57
theorem uboa_:CutOK Tryz.prog true Tryz.f57.ntmps uvm_ (sub uc3_ [1,1,0,1,0]) :=
 lok (body:=sub uc3_ [1,1,0,1,0,0]) (n:=1) (l:=[]) ulo_ trivial
theorem ubob_:CutOK Tryz.prog true Tryz.f57.ntmps uvn_ (sub uc3_ [1,1,1,0,1,0]) :=
 lok (body:=sub uc3_ [1,1,1,0,1,0,0]) (n:=3) (l:=[]) ulo_ trivial
theorem uboc_:CutOK Tryz.prog true Tryz.f57.ntmps uvo_ (sub uc3_ [1,1,1,1,0,1,0]) :=
 lok (body:=sub uc3_ [1,1,1,1,0,1,0,0]) (n:=5) (l:=[]) ulo_ trivial
theorem ub1n_:uf_ Tryz.prog 57∧FunOK Tryz.prog 57 ubdm_ :=
 fnk (c:=uc3_) (l:=[(uvm_,sub uc3_ [1,1,0,1,0]),(uvn_,sub uc3_ [1,1,1,0,1,0]),(uvo_,sub uc3_ [1,1,1,1,0,1,0])]) ulo_ Tryz.func57 ⟨⟨by kernel_rfl,uboa_⟩,⟨by kernel_rfl,ubob_⟩,⟨by kernel_rfl,uboc_⟩,trivial⟩
def u21_:FSpec:=⟨[.dp [3] (.int .i64)],[.dp [3] (.int .i64)],ux0_,true⟩
def u22_:List (Nat×FSpec):=[]
theorem ubf3_:FsOK Tryz.prog u22_:=trivial
def uop_:CSpec:=⟨⟨[0,3],[.dp [3] (.int .i64),.val (.int .i64)]⟩,[((.exit 0),⟨[0],[.dp [3] (.int .i64)]⟩)],([2,3,4,5]++seg 10 50),u15_,[]⟩
def ubuu_:Env:=mkE u22_ [(1,uop_)] [] true
theorem uxh_:EnvOK Tryz.prog true ubuu_:=enk ubf3_
def ulp_:Code:=uj_ Tryz.f222
theorem ubdo_:CutOK Tryz.prog true Tryz.f222.ntmps uop_ (sub ulp_ [1,1,0,1,0]) :=
 lok (body:=sub ulp_ [1,1,0,1,0,0]) (n:=2) (l:=[]) uxh_ trivial
theorem ubq0_:uf_ Tryz.prog 222∧FunOK Tryz.prog 222 u21_ :=
 fnk (c:=ulp_) (l:=[(uop_,sub ulp_ [1,1,0,1,0])]) uxh_ Tryz.func222 ⟨⟨by kernel_rfl,ubdo_⟩,trivial⟩
def ubyq_:FSpec:=⟨[.val (.agg ZZ13),.val (.int .i64)],[.val (.agg ZZ21)],ucai_,true⟩
def ubyr_:List (Nat×FSpec):=[(222,u21_)]
theorem ub4e_:FsOK Tryz.prog ubyr_:=⟨ubq0_,trivial⟩
def uba1_:CSpec:=⟨⟨[5,17,18,19],[.omap .str (.int .i64),.val (.slice ZZ2),.val (.int .i64),.val (.int .i64)]⟩,[((.exit 0),⟨[5],[.omap .str (.int .i64)]⟩)],([6,7]++seg 19 10),ubwd_,[]⟩
def uba2_:CSpec:=⟨⟨[1,5,9,43,44,45],[.val (.int .i64),.omap .str (.int .i64),.box (.pr (.val (.agg ZZ13)) (.pr (.val (.int .i64)) (.pr (.dp [31,3] (.int .i64)) (.dp [31,3] (.int .i64))))),.val ZZ35,.val (.int .i64),.val (.int .i64)]⟩,[((.exit 2),⟨[9],[.box (.pr (.val (.agg ZZ13)) (.pr (.val (.int .i64)) (.pr (.dp [31,3] (.int .i64)) (.dp [31,3] (.int .i64)))))]⟩)],([11,12,13]++seg 45 41),ubwe_,[]⟩
def uba3_:CSpec:=⟨⟨[9,86,87],[.box (.pr (.val (.agg ZZ13)) (.pr (.val (.int .i64)) (.pr (.dp [31,3] (.int .i64)) (.dp [31,3] (.int .i64))))),.val (.int .i64),.val (.int .i64)]⟩,[((.exit 4),⟨[9],[.box (.pr (.val (.agg ZZ13)) (.pr (.val (.int .i64)) (.pr (.dp [31,3] (.int .i64)) (.dp [31,3] (.int .i64)))))]⟩)],([14]++seg 87 24),ubwf_,[]⟩
def ucfk_:Env:=mkE ubyr_ [(0,uba1_),(2,uba2_),(5,uba3_)] [41,71,79,100,106] true (fun d=>(lookN [(38,2),(40,2)] d).getD 0)
theorem uvp_:EnvOK Tryz.prog true ucfk_:=enk ub4e_
def ug5_:Code:=uj_ Tryz.f214
theorem ub1o_:CutOK Tryz.prog true Tryz.f214.ntmps uba1_ (sub ug5_ [1,1,0,1,0]) :=
 lok (body:=sub ug5_ [1,1,0,1,0,0]) (n:=1) (l:=[]) uvp_ trivial
theorem ub1p_:CutOK Tryz.prog true Tryz.f214.ntmps uba2_ (sub ug5_ [1,1,1,1,1,0,1,0]) :=
 lok (body:=sub ug5_ [1,1,1,1,1,0,1,0,0]) (n:=3) (l:=[]) uvp_ trivial
theorem ub1q_:CutOK Tryz.prog true Tryz.f214.ntmps uba3_ (sub ug5_ [1,1,1,1,1,1,0,1,0]) :=
 lok (body:=sub ug5_ [1,1,1,1,1,1,0,1,0,0]) (n:=6) (l:=[]) uvp_ trivial
theorem ucc8_:uf_ Tryz.prog 214∧FunOK Tryz.prog 214 ubyq_ :=
 fnk (c:=ug5_) (l:=[(uba1_,sub ug5_ [1,1,0,1,0]),(uba2_,sub ug5_ [1,1,1,1,1,0,1,0]),(uba3_,sub ug5_ [1,1,1,1,1,1,0,1,0])]) uvp_ Tryz.func214 ⟨⟨by kernel_rfl,ub1o_⟩,⟨by kernel_rfl,ub1p_⟩,⟨by kernel_rfl,ub1q_⟩,trivial⟩
def ucaw_:FSpec:=⟨[.val (.agg ZZ13),.val (.int .i64)],[.val (.agg ZZ21),.val (.int .i64)],ucmr_,true⟩
def ucax_:List (Nat×FSpec):=[(80,ubes_),(214,ubyq_)]
theorem ucc9_:FsOK Tryz.prog ucax_:=⟨ubth_,ucc8_,trivial⟩
def ucnf_:Env:=mkE ucax_ [] [] true
theorem ucfl_:EnvOK Tryz.prog true ucnf_:=enk ucc9_
def ucng_:Code:=uj_ Tryz.f161
theorem ucj9_:uf_ Tryz.prog 161∧FunOK Tryz.prog 161 ucaw_ :=
 fnk (c:=ucng_) (l:=[]) ucfl_ Tryz.func161 trivial
def udm_:FSpec:=⟨[.val (.slice ZZ2),.val .str,.hof false (.prod ZZ2 .str) (.int .i64)],[.val (.int .i64),.val .bool],uel_,false⟩
def udn_:List (Nat×FSpec):=[]
theorem uib_:FsOK Tryz.prog udn_:=trivial
def ubq_:CSpec:=⟨⟨[0,1,2,9,10],[.val (.slice ZZ2),.val .str,.hof false (.prod ZZ2 .str) (.int .i64),.val (.int .i64),.val (.int .i64)]⟩,[((.exit 0),⟨[9],[.val (.int .i64)]⟩)],([9,10,11]++seg 15 20),udl_,[]⟩
def ukt_:Env:=mkE udn_ [(0,ubq_)] [] false
theorem udc_:EnvOK Tryz.prog false ukt_:=enk uib_
def u7_:Code:=uj_ Tryz.f215
theorem uhn_:CutOK Tryz.prog false Tryz.f215.ntmps ubq_ (sub u7_ [1,1,1,0,0]) :=
 lok (body:=sub u7_ [1,1,1,0,0,0]) (n:=1) (l:=[]) udc_ trivial
theorem ujc_:uf_ Tryz.prog 215∧FunOK Tryz.prog 215 udm_ :=
 fnk (c:=u7_) (l:=[(ubq_,sub u7_ [1,1,1,0,0])]) udc_ Tryz.func215 ⟨⟨by kernel_rfl,uhn_⟩,trivial⟩
def ubsb_:FSpec:=⟨[.val ZZ2,.val .str],[.val (.int .i64)],ub5z_,true⟩
def ubsc_:List (Nat×FSpec):=[(46,uda_)]
theorem ub1r_:FsOK Tryz.prog ubsc_:=⟨uer_,trivial⟩
def ucda_:Env:=mkE ubsc_ [] [] true
theorem ub4f_:EnvOK Tryz.prog true ucda_:=enk ub1r_
def ucdb_:Code:=uj_ Tryz.f216
theorem ub9q_:uf_ Tryz.prog 216∧FunOK Tryz.prog 216 ubsb_ :=
 fnk (c:=ucdb_) (l:=[]) ub4f_ Tryz.func216 trivial
def ub7v_:FSpec:=⟨[.val (.agg ZZ13),.val .str],[.val (.int .i64),.val .bool],ucip_,false⟩
def ub7w_:List (Nat×FSpec):=[(215,udm_),(216,ubsb_)]
theorem ub9r_:FsOK Tryz.prog ub7w_:=⟨ujc_,ub9q_,trivial⟩
def ucka_:Env:=mkE ub7w_ [] [] false
theorem ucdc_:EnvOK Tryz.prog false ucka_:=enk ub9r_
def uckb_:Code:=uj_ Tryz.f162
theorem uchg_:uf_ Tryz.prog 162∧FunOK Tryz.prog 162 ub7v_ :=
 fnk (c:=uckb_) (l:=[]) ucdc_ Tryz.func162 trivial
def ub2q_:FSpec:=⟨[.val (.agg ZZ13),.val .str,.val (.int .i64)],[.val (.agg ZZ21),.val (.int .i64),.val (.int .i64)],ucey_,false⟩
def ub2r_:List (Nat×FSpec):=[(161,ucaw_),(162,ub7v_)]
theorem ub7x_:FsOK Tryz.prog ub2r_:=⟨ucj9_,uchg_,trivial⟩
def uchh_:Env:=mkE ub2r_ [] [] false
theorem ub9s_:EnvOK Tryz.prog false uchh_:=enk ub7x_
def uchi_:Code:=uj_ Tryz.f118
theorem ucfm_:uf_ Tryz.prog 118∧FunOK Tryz.prog 118 ub2q_ :=
 fnk (c:=uchi_) (l:=[]) ub9s_ Tryz.func118 trivial
def ubod_:FSpec:=⟨[.val (.slice ZZ18),.val (.int .i64),.val (.int .i64)],[.val ZZ18],ub18_,true⟩
def uboe_:List (Nat×FSpec):=[]
theorem ubys_:FsOK Tryz.prog uboe_:=trivial
def u1k_:CSpec:=⟨⟨[7,17,18],[.own 3 (.int .i64) true,.val (.int .i64),.val (.int .i64)]⟩,[((.exit 0),⟨[7],[.own 3 (.int .i64) true]⟩)],[8,18,19,20,21,22,23,24],ublf_,[]⟩
def u1l_:CSpec:=⟨⟨[2,7,9,10,45,46,47],[.val (.int .i64),.own 3 (.int .i64) true,.dp [3] (.int .i64),.val (.int .i64),.val ZZ18,.val (.int .i64),.val (.int .i64)]⟩,[((.exit 4),⟨[7,9],[.own 3 (.int .i64) true,.dp [3] (.int .i64)]⟩)],([9,12]++seg 47 27),ublg_,[]⟩
def u1m_:CSpec:=⟨⟨[0,2,7,9],[.val (.slice ZZ18),.val (.int .i64),.own 3 (.int .i64) true,.dp [3] (.int .i64)]⟩,[((.exit 2),⟨[7],[.own 3 (.int .i64) true]⟩)],([9,10,12]++seg 34 40),ublh_,[]⟩
def ub9t_:Env:=mkE uboe_ [(0,u1k_),(5,u1l_),(3,u1m_)] [15,33,41] true
theorem upk_:EnvOK Tryz.prog true ub9t_:=enk ubys_
def ueg_:Code:=uj_ Tryz.f163
theorem ubuv_:CutOK Tryz.prog true Tryz.f163.ntmps u1k_ (sub ueg_ [1,1,0,1,0]) :=
 lok (body:=sub ueg_ [1,1,0,1,0,0]) (n:=1) (l:=[]) upk_ trivial
theorem ubuw_:CutOK Tryz.prog true Tryz.f163.ntmps u1l_ (sub ueg_ [1,1,1,1,1,1,0,0,0,1,0,1,1,1,0]) :=
 lok (body:=sub ueg_ [1,1,1,1,1,1,0,0,0,1,0,1,1,1,0,0]) (n:=6) (l:=[]) upk_ trivial
theorem ubux_:CutOK Tryz.prog true Tryz.f163.ntmps u1m_ (sub ueg_ [1,1,1,1,1,1,0,0]) :=
 lok (body:=sub ueg_ [1,1,1,1,1,1,0,0,0]) (n:=4) (l:=[(u1l_,sub ueg_ [1,1,1,1,1,1,0,0,0,1,0,1,1,1,0])]) upk_ ⟨⟨by kernel_rfl,ubuw_⟩,trivial⟩
theorem ub7y_:uf_ Tryz.prog 163∧FunOK Tryz.prog 163 ubod_ :=
 fnk (c:=ueg_) (l:=[(u1k_,sub ueg_ [1,1,0,1,0]),(u1m_,sub ueg_ [1,1,1,1,1,1,0,0])]) upk_ Tryz.func163 ⟨⟨by kernel_rfl,ubuv_⟩,⟨by kernel_rfl,ubux_⟩,trivial⟩
def u6f_:FSpec:=⟨[.val (.int .i64),.val (.ptr ZZ18),.val (.ptr (.int .i64))],[.val .bool],ubg0_,true⟩
def u6g_:List (Nat×FSpec):=[]
theorem ubjz_:FsOK Tryz.prog u6g_:=trivial
def ubyt_:Env:=mkE u6g_ [] [] true
theorem ubof_:EnvOK Tryz.prog true ubyt_:=enk ubjz_
def ubyu_:Code:=uj_ Tryz.f165
theorem ubuy_:uf_ Tryz.prog 165∧FunOK Tryz.prog 165 u6f_ :=
 fnk (c:=ubyu_) (l:=[]) ubof_ Tryz.func165 trivial
def uxi_:FSpec:=⟨[.val ZZ18,.hof false (.int .i64) .bool],[.val (.int .i64)],u4j_,false⟩
def uxj_:List (Nat×FSpec):=[]
theorem uba4_:FsOK Tryz.prog uxj_:=trivial
def ulq_:CSpec:=⟨⟨[0,1,7,8],[.val ZZ18,.hof false (.int .i64) .bool,.val (.int .i64),.val (.int .i64)]⟩,[((.exit 0),⟨[],[]⟩),(.ret,⟨[4],[.val (.int .i64)]⟩)],([4,5]++seg 8 11),uwn_,[]⟩
def ubog_:Env:=mkE uxj_ [(0,ulq_)] [] false
theorem us2_:EnvOK Tryz.prog false ubog_:=enk uba4_
def uix_:Code:=uj_ Tryz.f164
theorem u7r_:CutOK Tryz.prog false Tryz.f164.ntmps ulq_ (sub uix_ [1,0,1,0]) :=
 lok (body:=sub uix_ [1,0,1,0,0]) (n:=1) (l:=[]) us2_ trivial
theorem ubj0_:uf_ Tryz.prog 164∧FunOK Tryz.prog 164 uxi_ :=
 fnk (c:=uix_) (l:=[(ulq_,sub uix_ [1,0,1,0])]) us2_ Tryz.func164 ⟨⟨by kernel_rfl,u7r_⟩,trivial⟩
def ubh5_:FSpec:=⟨[.val (.agg ZZ21),.val (.int .i64)],[.val ZZ18],ubwg_,false⟩
def ubh6_:List (Nat×FSpec):=[(163,ubod_),(164,uxi_),(165,u6f_)]
theorem ubuz_:FsOK Tryz.prog ubh6_:=⟨ub7y_,ubj0_,ubuy_,trivial⟩
def uyr_:CSpec:=⟨⟨[1,2,5,6,7],[.val (.int .i64),.box (.val ZZ21),.box (.val ZZ18),.own 3 (.int .i64) false,.box (.val (.int .i64))]⟩,[((.exit 0),⟨[6],[.own 3 (.int .i64) false]⟩)],([6,7,8]++seg 24 23),ubg1_,[]⟩
def ub7z_:Env:=mkE ubh6_ [(1,uyr_)] [33] false
theorem u9v_:EnvOK Tryz.prog false ub7z_:=enk ubuz_
def uvq_:Code:=uj_ Tryz.f120
theorem ubq1_:CutOK Tryz.prog false Tryz.f120.ntmps uyr_ (sub uvq_ [1,1,1,1,0,1,0]) :=
 lok (body:=sub uvq_ [1,1,1,1,0,1,0,0]) (n:=2) (l:=[]) u9v_ trivial
theorem ub4g_:uf_ Tryz.prog 120∧FunOK Tryz.prog 120 ubh5_ :=
 fnk (c:=uvq_) (l:=[(uyr_,sub uvq_ [1,1,1,1,0,1,0])]) u9v_ Tryz.func120 ⟨⟨by kernel_rfl,ubq1_⟩,trivial⟩
def ubh7_:FSpec:=⟨[.val (.agg ZZ21),.val ZZ18],[.val (.slice .str)],ubwh_,true⟩
def ubh8_:List (Nat×FSpec):=[]
theorem ubu0_:FsOK Tryz.prog ubh8_:=trivial
def uys_:CSpec:=⟨⟨[2,5,8,9,10],[.box (.val ZZ21),.own 9 .str false,.val ZZ18,.val (.int .i64),.val (.int .i64)]⟩,[((.exit 0),⟨[5],[.own 9 .str false]⟩)],([5,7]++seg 10 15),ubg2_,[]⟩
def ub70_:Env:=mkE ubh8_ [(0,uys_)] [] true
theorem u9w_:EnvOK Tryz.prog true ub70_:=enk ubu0_
def uvr_:Code:=uj_ Tryz.f119
theorem ubq2_:CutOK Tryz.prog true Tryz.f119.ntmps uys_ (sub uvr_ [1,1,0,1,0]) :=
 lok (body:=sub uvr_ [1,1,0,1,0,0]) (n:=1) (l:=[]) u9w_ trivial
theorem ub4h_:uf_ Tryz.prog 119∧FunOK Tryz.prog 119 ubh7_ :=
 fnk (c:=uvr_) (l:=[(uys_,sub uvr_ [1,1,0,1,0])]) u9w_ Tryz.func119 ⟨⟨by kernel_rfl,ubq2_⟩,trivial⟩
def ucay_:FSpec:=⟨[.val (.agg ZZ13),.val .str,.val (.int .i64)],[.val (.slice .str),.val .bool,.val (.int .i64)],ucms_,false⟩
def ucaz_:List (Nat×FSpec):=[(118,ub2q_),(119,ubh7_),(120,ubh5_)]
theorem ucdd_:FsOK Tryz.prog ucaz_:=⟨ucfm_,ub4h_,ub4g_,trivial⟩
def ucnh_:Env:=mkE ucaz_ [] [] false
theorem ucfn_:EnvOK Tryz.prog false ucnh_:=enk ucdd_
def ucni_:Code:=uj_ Tryz.f87
theorem uckc_:uf_ Tryz.prog 87∧FunOK Tryz.prog 87 ucay_ :=
 fnk (c:=ucni_) (l:=[]) ucfn_ Tryz.func87 trivial
def u0p_:FSpec:=⟨[.val (.ptr ZZ1),.val ZZ23,.val (.agg ZZ3),.val ZZ2],[.val .bool],u8l_,true⟩
def u0q_:List (Nat×FSpec):=[(90,ugc_)]
theorem ubdp_:FsOK Tryz.prog u0q_:=⟨ukk_,trivial⟩
def ubq3_:Env:=mkE u0q_ [] [] true
theorem ubf4_:EnvOK Tryz.prog true ubq3_:=enk ubdp_
def ubq4_:Code:=uj_ Tryz.f121
theorem uboh_:uf_ Tryz.prog 121∧FunOK Tryz.prog 121 u0p_ :=
 fnk (c:=ubq4_) (l:=[]) ubf4_ Tryz.func121 trivial
def uxk_:FSpec:=⟨[.val (.ptr ZZ1),.val (.agg ZZ3),.val ZZ2],[.val (.int .i64)],u4k_,true⟩
def uxl_:List (Nat×FSpec):=[(121,u0p_)]
theorem uba5_:FsOK Tryz.prog uxl_:=⟨uboh_,trivial⟩
def ulr_:CSpec:=⟨⟨[0,4,5,7,15,16,17],[.val (.ptr ZZ1),.box (.val ZZ3),.box (.val ZZ33),.val (.int .i64),.val (.slice ZZ23),.val (.int .i64),.val (.int .i64)]⟩,[((.exit 0),⟨[7],[.val (.int .i64)]⟩)],([7,8,9,10]++seg 17 48),uwo_,[]⟩
def uboi_:Env:=mkE uxl_ [(0,ulr_)] [] true
theorem us3_:EnvOK Tryz.prog true uboi_:=enk uba5_
def uiy_:Code:=uj_ Tryz.f88
theorem u7s_:CutOK Tryz.prog true Tryz.f88.ntmps ulr_ (sub uiy_ [1,1,0,1,0]) :=
 lok (body:=sub uiy_ [1,1,0,1,0,0]) (n:=1) (l:=[]) us3_ trivial
theorem ubj1_:uf_ Tryz.prog 88∧FunOK Tryz.prog 88 uxk_ :=
 fnk (c:=uiy_) (l:=[(ulr_,sub uiy_ [1,1,0,1,0])]) us3_ Tryz.func88 ⟨⟨by kernel_rfl,u7s_⟩,trivial⟩
def uic_:FSpec:=⟨[.val (.agg ZZ11)],[.val (.slice .str)],ugu_,true⟩
def ups_:List (Nat×FSpec):=[]
theorem u1n_:FsOK Tryz.prog ups_:=trivial
def uba6_:Env:=mkE ups_ [] [] true
theorem u3h_:EnvOK Tryz.prog true uba6_:=enk u1n_
def uba7_:Code:=uj_ Tryz.f89
theorem upt_:uf_ Tryz.prog 89∧FunOK Tryz.prog 89 uic_ :=
 fnk (c:=uba7_) (l:=[]) u3h_ Tryz.func89 trivial
def us4_:FSpec:=⟨[.val (.ptr ZZ1),.val (.agg ZZ6)],[.val (.agg ZZ11)],uzi_,false⟩
def us5_:List (Nat×FSpec):=[(87,ucay_),(88,uxk_),(89,uic_),(90,ugc_)]
theorem u6h_:FsOK Tryz.prog us5_:=⟨uckc_,ubj1_,upt_,ukk_,trivial⟩
def ui6_:CSpec:=⟨⟨[3,5,63,64,65],[.box (.val ZZ6),.box (.pr (.val (.ptr ZZ1)) (.pr (.val (.agg ZZ6)) (.pr (.val (.agg ZZ3)) (.pr (.val ZZ2) (.pr (.val (.slice .str)) (.pr (.val (.int .i64)) (.own 9 .str false))))))),.val (.slice ZZ19),.val (.int .i64),.val (.int .i64)]⟩,[((.exit 2),⟨[3,5],[.box (.val ZZ6),.box (.pr (.val (.ptr ZZ1)) (.pr (.val (.agg ZZ6)) (.pr (.val (.agg ZZ3)) (.pr (.val ZZ2) (.pr (.val (.slice .str)) (.pr (.val (.int .i64)) (.own 9 .str false)))))))]⟩)],([9]++seg 65 30),usk_,[]⟩
def ui7_:CSpec:=⟨⟨[3,5,56,57,58],[.box (.val ZZ6),.box (.pr (.val (.ptr ZZ1)) (.pr (.val (.agg ZZ6)) (.pr (.val (.agg ZZ3)) (.pr (.val ZZ2) (.pr (.val (.slice .str)) (.pr (.val (.int .i64)) (.own 9 .str false))))))),.val (.slice ZZ28),.val (.int .i64),.val (.int .i64)]⟩,[((.exit 0),⟨[5],[.box (.pr (.val (.ptr ZZ1)) (.pr (.val (.agg ZZ6)) (.pr (.val (.agg ZZ3)) (.pr (.val ZZ2) (.pr (.val (.slice .str)) (.pr (.val (.int .i64)) (.own 9 .str false)))))))]⟩)],([7,9]++seg 58 38),usl_,[]⟩
def ubf5_:Env:=mkE us5_ [(2,ui6_),(0,ui7_)] [26] false
theorem uid_:EnvOK Tryz.prog false ubf5_:=enk u6h_
def ub5_:Code:=uj_ Tryz.f58
theorem u3i_:CutOK Tryz.prog false Tryz.f58.ntmps ui6_ (sub ub5_ [1,1,1,1,0,1,0,0,1,1,0,0,1,1,0]) :=
 lok (body:=sub ub5_ [1,1,1,1,0,1,0,0,1,1,0,0,1,1,0,0]) (n:=3) (l:=[]) uid_ trivial
theorem u3j_:CutOK Tryz.prog false Tryz.f58.ntmps ui7_ (sub ub5_ [1,1,1,1,0,1,0]) :=
 lok (body:=sub ub5_ [1,1,1,1,0,1,0,0]) (n:=1) (l:=[(ui6_,sub ub5_ [1,1,1,1,0,1,0,0,1,1,0,0,1,1,0])]) uid_ ⟨⟨by kernel_rfl,u3i_⟩,trivial⟩
theorem ubdq_:uf_ Tryz.prog 58∧FunOK Tryz.prog 58 us4_ :=
 fnk (c:=ub5_) (l:=[(ui7_,sub ub5_ [1,1,1,1,0,1,0])]) uid_ Tryz.func58 ⟨⟨by kernel_rfl,u3j_⟩,trivial⟩
def u6i_:FSpec:=⟨[.val (.agg ZZ11)],[.val .bool],ubg3_,true⟩
def u6j_:List (Nat×FSpec):=[]
theorem ubj2_:FsOK Tryz.prog u6j_:=trivial
def ubyv_:Env:=mkE u6j_ [] [] true
theorem uboj_:EnvOK Tryz.prog true ubyv_:=enk ubj2_
def ubyw_:Code:=uj_ Tryz.f167
theorem ubu1_:uf_ Tryz.prog 167∧FunOK Tryz.prog 167 u6i_ :=
 fnk (c:=ubyw_) (l:=[]) uboj_ Tryz.func167 trivial
def uoq_:FSpec:=⟨[.val (.agg ZZ11),.val (.int .i64),.val (.int .i64)],[.val .bool],uua_,true⟩
def u0r_:List (Nat×FSpec):=[]
theorem ubdr_:FsOK Tryz.prog u0r_:=trivial
def ubq5_:Env:=mkE u0r_ [] [] true
theorem ubf6_:EnvOK Tryz.prog true ubq5_:=enk ubdr_
def ubq6_:Code:=uj_ Tryz.f169
theorem u0s_:uf_ Tryz.prog 169∧FunOK Tryz.prog 169 uoq_ :=
 fnk (c:=ubq6_) (l:=[]) ubf6_ Tryz.func169 trivial
def u6k_:FSpec:=⟨[.val (.agg ZZ11)],[.val .bool],ubg4_,true⟩
def u6l_:List (Nat×FSpec):=[(169,uoq_)]
theorem ubj3_:FsOK Tryz.prog u6l_:=⟨u0s_,trivial⟩
def ubyx_:Env:=mkE u6l_ [] [] true
theorem ubok_:EnvOK Tryz.prog true ubyx_:=enk ubj3_
def ubyy_:Code:=uj_ Tryz.f168
theorem ubu2_:uf_ Tryz.prog 168∧FunOK Tryz.prog 168 u6k_ :=
 fnk (c:=ubyy_) (l:=[]) ubok_ Tryz.func168 trivial
def uku_:FSpec:=⟨[.val (.agg ZZ11)],[.val .str],unz_,true⟩
def us6_:List (Nat×FSpec):=[]
theorem u6m_:FsOK Tryz.prog us6_:=trivial
def ui8_:CSpec:=⟨⟨[1,6,7,8],[.box (.val ZZ11),.val (.slice .str),.val (.int .i64),.val (.int .i64)]⟩,[((.exit 0),⟨[],[]⟩),(.ret,⟨[2],[.val .str]⟩)],([2,4]++seg 8 13),usm_,[]⟩
def ubf7_:Env:=mkE us6_ [(0,ui8_)] [] true
theorem upu_:EnvOK Tryz.prog true ubf7_:=enk u6m_
def ugz_:Code:=uj_ Tryz.f93
theorem u3k_:CutOK Tryz.prog true Tryz.f93.ntmps ui8_ (sub ugz_ [1,0,1,0]) :=
 lok (body:=sub ugz_ [1,0,1,0,0]) (n:=1) (l:=[]) upu_ trivial
theorem us7_:uf_ Tryz.prog 93∧FunOK Tryz.prog 93 uku_ :=
 fnk (c:=ugz_) (l:=[(ui8_,sub ugz_ [1,0,1,0])]) upu_ Tryz.func93 ⟨⟨by kernel_rfl,u3k_⟩,trivial⟩
def u6n_:FSpec:=⟨[.val (.agg ZZ11)],[.val .bool],ubg5_,true⟩
def u6o_:List (Nat×FSpec):=[(93,uku_)]
theorem ubj4_:FsOK Tryz.prog u6o_:=⟨us7_,trivial⟩
def ubyz_:Env:=mkE u6o_ [] [] true
theorem ubol_:EnvOK Tryz.prog true ubyz_:=enk ubj4_
def uby0_:Code:=uj_ Tryz.f170
theorem ubu3_:uf_ Tryz.prog 170∧FunOK Tryz.prog 170 u6n_ :=
 fnk (c:=uby0_) (l:=[]) ubol_ Tryz.func170 trivial
def u6p_:FSpec:=⟨[.val (.agg ZZ11)],[.val .bool],ubg6_,true⟩
def u6q_:List (Nat×FSpec):=[(169,uoq_)]
theorem ubj5_:FsOK Tryz.prog u6q_:=⟨u0s_,trivial⟩
def uby1_:Env:=mkE u6q_ [] [] true
theorem ubom_:EnvOK Tryz.prog true uby1_:=enk ubj5_
def uby2_:Code:=uj_ Tryz.f171
theorem ubu4_:uf_ Tryz.prog 171∧FunOK Tryz.prog 171 u6p_ :=
 fnk (c:=uby2_) (l:=[]) ubom_ Tryz.func171 trivial
def upv_:FSpec:=⟨[.val (.agg ZZ11)],[.val .bool],uub_,true⟩
def upw_:List (Nat×FSpec):=[(89,uic_)]
theorem u1o_:FsOK Tryz.prog upw_:=⟨upt_,trivial⟩
def uba8_:Env:=mkE upw_ [] [] true
theorem u3l_:EnvOK Tryz.prog true uba8_:=enk u1o_
def uba9_:Code:=uj_ Tryz.f172
theorem u7t_:uf_ Tryz.prog 172∧FunOK Tryz.prog 172 upv_ :=
 fnk (c:=uba9_) (l:=[]) u3l_ Tryz.func172 trivial
def ubh9_:FSpec:=⟨[],[.val (.slice (.agg (.prod (.int .i64) (.fnc (.agg ZZ11) .bool))))],ubwi_,true⟩
def ubia_:List (Nat×FSpec):=[(167,u6i_),(168,u6k_),(170,u6n_),(171,u6p_),(172,upv_)]
theorem ubu5_:FsOK Tryz.prog ubia_:=⟨ubu1_,ubu2_,ubu3_,ubu4_,u7t_,trivial⟩
def ub71_:Env:=mkE ubia_ [] [] true
theorem uby3_:EnvOK Tryz.prog true ub71_:=enk ubu5_
def ub72_:Code:=uj_ Tryz.f123
theorem ub4i_:uf_ Tryz.prog 123∧FunOK Tryz.prog 123 ubh9_ :=
 fnk (c:=ub72_) (l:=[]) uby3_ Tryz.func123 trivial
def uxm_:FSpec:=⟨[.val (.agg ZZ11)],[.val (.int .i64)],u4l_,false⟩
def uxn_:List (Nat×FSpec):=[(123,ubh9_)]
theorem ubba_:FsOK Tryz.prog uxn_:=⟨ub4i_,trivial⟩
def uls_:CSpec:=⟨⟨[1,5,6,7],[.box (.val ZZ11),.val (.slice (.agg (.prod (.int .i64) (.fnc (.agg ZZ11) .bool)))),.val (.int .i64),.val (.int .i64)]⟩,[((.exit 0),⟨[],[]⟩),(.ret,⟨[2],[.val (.int .i64)]⟩)],([2,4]++seg 7 11),uwp_,[]⟩
def ubon_:Env:=mkE uxn_ [(0,uls_)] [] false
theorem us8_:EnvOK Tryz.prog false ubon_:=enk ubba_
def uiz_:Code:=uj_ Tryz.f91
theorem u7u_:CutOK Tryz.prog false Tryz.f91.ntmps uls_ (sub uiz_ [1,0,1,0]) :=
 lok (body:=sub uiz_ [1,0,1,0,0]) (n:=1) (l:=[]) us8_ trivial
theorem ubj6_:uf_ Tryz.prog 91∧FunOK Tryz.prog 91 uxm_ :=
 fnk (c:=uiz_) (l:=[(uls_,sub uiz_ [1,0,1,0])]) us8_ Tryz.func91 ⟨⟨by kernel_rfl,u7u_⟩,trivial⟩
def uxo_:FSpec:=⟨[.val (.agg ZZ11)],[.val (.int .i64)],u4m_,true⟩
def uxp_:List (Nat×FSpec):=[(124,u1b_)]
theorem ubbb_:FsOK Tryz.prog uxp_:=⟨ubhh_,trivial⟩
def uboo_:Env:=mkE uxp_ [] [] true
theorem ubds_:EnvOK Tryz.prog true uboo_:=enk ubbb_
def ubop_:Code:=uj_ Tryz.f92
theorem ubj7_:uf_ Tryz.prog 92∧FunOK Tryz.prog 92 uxo_ :=
 fnk (c:=ubop_) (l:=[]) ubds_ Tryz.func92 trivial
def us9_:FSpec:=⟨[.val (.agg ZZ11)],[.val ZZ4],uzj_,false⟩
def uta_:List (Nat×FSpec):=[(91,uxm_),(92,uxo_),(93,uku_)]
theorem u6r_:FsOK Tryz.prog uta_:=⟨ubj6_,ubj7_,us7_,trivial⟩
def ubf8_:Env:=mkE uta_ [] [] false
theorem u7v_:EnvOK Tryz.prog false ubf8_:=enk u6r_
def ubf9_:Code:=uj_ Tryz.f59
theorem ubdt_:uf_ Tryz.prog 59∧FunOK Tryz.prog 59 us9_ :=
 fnk (c:=ubf9_) (l:=[]) u7v_ Tryz.func59 trivial
def uboq_:FSpec:=⟨[.val (.agg ZZ5)],[.val (.ptr ZZ1),.val (.slice ZZ4),.val (.int .i64)],ub19_,false⟩
def ubor_:List (Nat×FSpec):=[(55,ubn1_),(56,ubh3_),(57,ubdm_),(58,us4_),(59,us9_)]
theorem uby4_:FsOK Tryz.prog ubor_:=⟨ub7q_,ub4c_,ub1n_,ubdq_,ubdt_,trivial⟩
def u1p_:CSpec:=⟨⟨[8,9,30,31,32],[.val (.ptr ZZ1),.own 26 ZZ4 false,.val ZZ35,.val (.int .i64),.val (.int .i64)]⟩,[((.exit 0),⟨[9],[.own 26 ZZ4 false]⟩)],([9,11]++seg 32 12),ubli_,[]⟩
def ub9u_:Env:=mkE ubor_ [(2,u1p_)] [] false
theorem ubdu_:EnvOK Tryz.prog false ub9u_:=enk uby4_
def uy3_:Code:=uj_ Tryz.f47
theorem ubu6_:CutOK Tryz.prog false Tryz.f47.ntmps u1p_ (sub uy3_ [1,1,1,1,1,1,0,1,0]) :=
 lok (body:=sub uy3_ [1,1,1,1,1,1,0,1,0,0]) (n:=3) (l:=[]) ubdu_ trivial
theorem ub73_:uf_ Tryz.prog 47∧FunOK Tryz.prog 47 uboq_ :=
 fnk (c:=uy3_) (l:=[(u1p_,sub uy3_ [1,1,1,1,1,1,0,1,0])]) ubdu_ Tryz.func47 ⟨⟨by kernel_rfl,ubu6_⟩,trivial⟩
def u9x_:FSpec:=⟨[.val (.agg ZZ5)],[.val (.slice ZZ4),.val (.int .i64)],ublj_,false⟩
def u9y_:List (Nat×FSpec):=[(47,uboq_)]
theorem ubos_:FsOK Tryz.prog u9y_:=⟨ub73_,trivial⟩
def ub1s_:Env:=mkE u9y_ [] [] false
theorem ubq7_:EnvOK Tryz.prog false ub1s_:=enk ubos_
def ub1t_:Code:=uj_ Tryz.f35
theorem uby5_:uf_ Tryz.prog 35∧FunOK Tryz.prog 35 u9x_ :=
 fnk (c:=ub1t_) (l:=[]) ubq7_ Tryz.func35 trivial
def ucfo_:FSpec:=⟨[],[.val .bool],ucmt_,false⟩
def ucfp_:List (Nat×FSpec):=[(35,u9x_),(36,ucaq_)]
theorem ucfq_:FsOK Tryz.prog ucfp_:=⟨uby5_,ucj1_,trivial⟩
def ucps_:Env:=mkE ucfp_ [] [] false
theorem uchj_:EnvOK Tryz.prog false ucps_:=enk ucfq_
def ucpt_:Code:=uj_ Tryz.f15
theorem ucnj_:uf_ Tryz.prog 15∧FunOK Tryz.prog 15 ucfo_ :=
 fnk (c:=ucpt_) (l:=[]) uchj_ Tryz.func15 trivial
def u6s_:FSpec:=⟨[.val (.slice ZZ4),.val ZZ4],[.val .bool],uj2_,false⟩
def uor_:List (Nat×FSpec):=[(5,ubrn_),(6,uce4_),(7,ublr_),(8,ucaj_),(9,ublt_),(10,ucam_),(11,ubl2_),(12,ucao_),(13,uzs_),(14,u8r_),(15,ucfo_)]
theorem u0t_:FsOK Tryz.prog uor_:=⟨ub8e_,ucm5_,ub6a_,ucjw_,ub6b_,ucjx_,ub6g_,ucj0_,ubl5_,ubwx_,ucnj_,trivial⟩
def u7w_:Env:=mkE uor_ [] [] false
theorem u1q_:EnvOK Tryz.prog false u7w_:=enk u0t_
def u7x_:Code:=uj_ Tryz.f3
theorem L7_VerdictRiskMatchesSpec_ok:uf_ Tryz.prog 3∧FunOK Tryz.prog 3 u6s_ :=
 fnk (c:=u7x_) (l:=[]) u1q_ Tryz.func3 trivial
end
end Go.Ev.Pv
