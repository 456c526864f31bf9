/-
  Each of the program's functions keeps what its plain function says.
-/
import Derived.Test.YthepbdhoogphdaaGreatDoorD
import Derived.Test.YthepbdhoogphdaaGreatDoorG
import Derived.Test.YthepbdhoogphdaaGreatDoorProg
set_option linter.unusedVariables false
set_option linter.unusedSimpArgs false
set_option linter.unusedSectionVars false
set_option maxRecDepth 100000
namespace Go.Ev.Pv
noncomputable section
def seg:Nat→Nat→List Nat
 | _,0=>[]
 | a,n+1=>a::seg (a+1) n
abbrev ZZ15:Ty:=(.slice (.agg (.prod (.int .i64) .str)))
abbrev ZZ4:Ty:=(.prod .str (.prod (.int .i64) (.prod ZZ15 (.prod (.slice .str) (.slice .str)))))
abbrev ZZ1:Ty:=(.prod .str (.prod (.slice .str) (.prod .str (.prod (.int .i64) (.prod .bool (.prod .str (.slice (.agg ZZ4))))))))
abbrev ZZ17:Ty:=(.prod (.int .i64) (.prod .str (.prod .str .bool)))
abbrev ZZ12:Ty:=(.slice (.int .i64))
abbrev ZZ6:Ty:=(.prod (.int .i64) (.prod ZZ12 (.prod (.int .i64) (.prod (.int .i64) (.prod (.int .i64) (.prod (.int .i64) (.slice .str)))))))
abbrev ZZ11:Ty:=(.agg (.prod .bool (.prod .str (.int .i64))))
abbrev ZZ2:Ty:=(.ialt 176 (.agg (.prod (.arr 3 (.int .i64)) (.slice .str))) (.ialt 182 (.agg ZZ17) (.ialt 187 (.agg ZZ6) (.ialt 208 (.agg (.slice ZZ11)) (.ialt 213 (.agg (.int .i64)) .inil)))))
abbrev ZZ3:Ty:=(.agg (.prod (.int .i64) (.prod .str (.prod .str (.int .i64)))))
abbrev ZZ5:Ty:=(.agg (.prod (.int .i64) (.prod .str (.prod .bool .str))))
abbrev ZZ20:Ty:=(.prod .bool (.prod .bool .str))
abbrev ZZ7:Ty:=(.agg (.prod (.agg ZZ20) (.agg ZZ20)))
abbrev ZZ8:Ty:=(.agg (.prod .str .str))
abbrev ZZ9:Ty:=(.prod (.int .i64) (.int .i64))
abbrev ZZ10:Ty:=(.prod .str (.prod .str (.prod .str (.prod .str (.prod (.slice ZZ8) .str)))))
abbrev ZZ13:Ty:=(.slice (.agg ZZ1))
abbrev ZZ14:Ty:=(.prod .str ZZ9)
abbrev ZZ16:Ty:=(.prod (.int .i64) (.slice ZZ7))
abbrev ZZ18:Ty:=(.agg (.prod ZZ5 ZZ5))
abbrev ZZ19:Ty:=(.agg (.prod .str (.prod (.int .i64) (.prod .bool (.prod .bool (.int .i64))))))
abbrev ZZ21:Ty:=(.prod ZZ8 ZZ8)
abbrev ZZ22:Ty:=(.prod ZZ3 ZZ3)
abbrev ZZ23:Ty:=(.prod (.int .i64) (.prod ZZ13 ZZ12))
open Go.Proofs
def tys:List (Nat×Ty):=[(3,(.int .i64)),(4,.bool),(5,(.int .u8)),(9,.str),(22,ZZ13),(23,(.slice .str)),(29,(.slice (.agg ZZ4))),(31,(.agg ZZ1)),(35,ZZ15),(37,(.agg ZZ4)),(40,(.slice ZZ7)),(42,(.agg ZZ16)),(51,(.slice ZZ12)),(53,ZZ12),(60,(.agg ZZ23)),(74,(.slice ZZ18)),(78,ZZ2),(87,(.fnc (.int .i64) (.int .i64))),(88,(.map .str (.int .i64))),(90,(.map (.int .i64) ZZ12)),(100,(.int .u64)),(101,(.map (.int .u8) (.int .i64))),(102,(.arr 6 (.map (.int .u8) (.int .i64)))),(104,(.arr 6 (.int .i64))),(107,(.agg (.prod (.int .i64) .str))),(112,(.agg ZZ20)),(114,ZZ7),(117,ZZ5),(120,ZZ18),(125,(.slice ZZ3)),(128,ZZ3),(135,(.slice (.agg ZZ16))),(160,(.slice ZZ8)),(162,(.agg ZZ10)),(169,(.arr 4 (.int .i64))),(174,(.arr 3 (.int .i64))),(176,(.agg (.prod (.arr 3 (.int .i64)) (.slice .str)))),(182,(.agg ZZ17)),(187,(.agg ZZ6)),(195,(.slice (.int .u8))),(197,(.agg (.prod .self (.slice (.int .u8))))),(206,(.slice ZZ11)),(208,(.agg (.slice ZZ11))),(210,ZZ11),(213,(.agg (.int .i64))),(230,(.agg ZZ14)),(234,ZZ8),(275,ZZ19),(306,(.arr 5 ZZ19))]
theorem uckr_:tysOK Tryz.prog tys=true:=by kernel_rfl
def els:List (Nat×Nat):=[(22,31),(23,9),(29,37),(35,107),(40,114),(51,53),(53,3),(74,120),(90,3),(125,128),(135,42),(160,234),(195,5),(206,210)]
theorem ucks_:elsOK Tryz.prog els=true:=by kernel_rfl
def eqs:List Nat:=[107]
theorem uckt_:eqsOK Tryz.prog tys eqs=true:=by kernel_rfl
theorem mix:Tryz.prog.follows .mixedOrders=true:=by kernel_rfl
def mname (t i:Nat):String:=(((Tryz.prog.types[t]?).bind fun x=>x.methods[i]?).map fun m=>m.name).getD default
def ms:List (String×Nat×Nat):=[(mname 176 0,176,299),(mname 176 1,176,300),(mname 182 0,182,306),(mname 182 1,182,307),(mname 187 0,187,314),(mname 187 1,187,315),(mname 208 0,208,323),(mname 208 1,208,324),(mname 213 0,213,329),(mname 213 1,213,330)]
theorem ms_ok:MsOK Tryz.prog ms:=⟨(fun v w=>by kernel_rfl),(fun v w=>by kernel_rfl),(fun v w=>by kernel_rfl),(fun v w=>by kernel_rfl),(fun v w=>by kernel_rfl),(fun v w=>by kernel_rfl),(fun v w=>by kernel_rfl),(fun v w=>by kernel_rfl),(fun v w=>by kernel_rfl),(fun v w=>by kernel_rfl),trivial⟩
def mkE (fs:List (Nat×FSpec)) (cs:List (Nat×CSpec)) (wr:List Nat) (dr:Bool):Env:=⟨lookN tys,lookN fs,lookN cs,(fun d=>hasN d wr),elOf Tryz.prog els,lookM ms,(fun t=>hasN t eqs),dr⟩
theorem enk {dr:Bool} {fs:List (Nat×FSpec)} {cs:List (Nat×CSpec)} {wr:List Nat} (h3:FsOK Tryz.prog fs) (h6:(!dr||fs.all fun p=>p.2.dr)=true:=by kernel_rfl):EnvOK Tryz.prog dr (mkE fs cs wr dr):=uch7_ rfl uckr_ ucks_ h3 ms_ok uckt_ h6
theorem fnk {dr:Bool} {E:Env} {f:FuncId} {fn:Func} {c:Code} {ps rs:List Sh} {F:TupR ps→Option (TupR (rs++ps.filter isBox))} {l:List (CSpec×Code)} (hE:EnvOK Tryz.prog dr E)
 (hf:Tryz.prog.funcs[f]? = some fn) (hc:AllCuts Tryz.prog dr fn.ntmps (okFun fn.ntmps ps) l) (hnm:(fn.name == "runtime.NumGoroutine")=false:=by kernel_rfl) (hb:fn.body=some c:=by kernel_rfl) (hd:dstOK (okFun fn.ntmps ps) c=true:=by kernel_rfl) (hn:Nat.ble ps.length fn.ntmps=true:=by kernel_rfl) (hl:Nat.beq fn.results.toList.length rs.length=true:=by kernel_rfl)
 (hcs:ubcv_ E c 0=l:=by kernel_rfl) (hF:∀ v,evFun E fn ps rs v=F v:=by intro v; kernel_rfl):um_ Tryz.prog f∧FunOK Tryz.prog f ⟨ps,rs,F,dr⟩:=fn_ok hE mix hf hnm hb hd hn hl hcs hc hF
theorem lok {dr:Bool} {E:Env} {N n:Nat} {body:Code} {al:List (Nat×Nat)} {inn:Kp} {outs:List (Ex×Kp)} {wrs:List Nat} {r:(TupR inn.sh→Option (OutT outs))→TupR inn.sh→Option (OutT outs)} {l:List (CSpec×Code)} (hE:EnvOK Tryz.prog dr E)
 (hc:AllCuts Tryz.prog dr N (okCut N wrs) l) (hd:dstOK (okCut N wrs) body=true:=by kernel_rfl) (hcs:ubcv_ E body n=l:=by kernel_rfl) (hF:∀ next v,ucbt_ E body n al inn outs next v=r next v:=by intro next v; kernel_rfl) :
 CutOK Tryz.prog dr N ⟨inn,outs,wrs,loopN r fuel,al⟩ (.loop body):=ucjh_ hE mix hd hcs hc hF fuel
theorem brk {dr:Bool} {E:Env} {N n:Nat} {c:Operand} {x y:Code} {al:List (Nat×Nat)} {inn:Kp} {outs:List (Ex×Kp)} {wrs:List Nat} {F:TupR inn.sh→Option (OutT outs)} {lx ly:List (CSpec×Code)} (hE:EnvOK Tryz.prog dr E)
 (hx:AllCuts Tryz.prog dr N (okCut N wrs) lx) (hy:AllCuts Tryz.prog dr N (okCut N wrs) ly) (hd:dstOK (okCut N wrs) (.cond c x y)=true:=by kernel_rfl) (hcx:ubcv_ E x (n+1)=lx:=by kernel_rfl) (hcy:ubcv_ E y (n+1+nodes x)=ly:=by kernel_rfl)
 (hF:∀ v,ucec_ E c x y n al inn outs v=F v:=by intro v; kernel_rfl):CutOK Tryz.prog dr N ⟨inn,outs,wrs,F,al⟩ (.cond c x y):=ucfg_ hE mix hd hcx hcy hx hy hF
def u64_:FSpec:=⟨[.val .str],[.val .bool],ui0_,true⟩
def ubku_:List (Nat×FSpec):=[]
theorem ubti_:FsOK Tryz.prog ubku_:=trivial
def u3x_:CSpec:=⟨⟨[0,6,7],[.val .str,.val (.int .i64),.val (.int .i64)]⟩,[((.exit 0),⟨[],[]⟩),(.ret,⟨[2],[.val .bool]⟩)],([2,3,4]++seg 7 42),u6q_,[]⟩
def ub2f_:Env:=mkE ubku_ [(0,u3x_)] [] true
theorem ubc7_:EnvOK Tryz.prog true ub2f_:=enk ubti_
def u11_:Code:=u4_ Tryz.f127
theorem ubqz_:CutOK Tryz.prog true Tryz.f127.ntmps u3x_ (sub u11_ [1,0,1,0]) :=
 lok (body:=sub u11_ [1,0,1,0,0]) (n:=1) (l:=[]) ubc7_ trivial
theorem ubkv_:um_ Tryz.prog 127∧FunOK Tryz.prog 127 u64_ :=
 fnk (c:=u11_) (l:=[(u3x_,sub u11_ [1,0,1,0])]) ubc7_ Tryz.func127 ⟨⟨by kernel_rfl,ubqz_⟩,trivial⟩
def uxr_:FSpec:=⟨[.val (.agg ZZ1)],[.val (.int .i64)],udl_,true⟩
def uxs_:List (Nat×FSpec):=[(127,u64_)]
theorem u8s_:FsOK Tryz.prog uxs_:=⟨ubkv_,trivial⟩
def umq_:CSpec:=⟨⟨[1,10,11,12],[.box (.val ZZ1),.val (.slice .str),.val (.int .i64),.val (.int .i64)]⟩,[((.exit 0),⟨[],[]⟩),(.ret,⟨[2],[.val (.int .i64)]⟩)],([2,3,4]++seg 12 28),uip_,[]⟩
def ubip_:Env:=mkE uxs_ [(1,umq_)] [] true
theorem uuk_:EnvOK Tryz.prog true ubip_:=enk u8s_
def ujs_:Code:=u4_ Tryz.f128
theorem u65_:CutOK Tryz.prog true Tryz.f128.ntmps umq_ (sub ujs_ [1,1,0,1,0]) :=
 lok (body:=sub ujs_ [1,1,0,1,0,0]) (n:=2) (l:=[]) uuk_ trivial
theorem ubfm_:um_ Tryz.prog 128∧FunOK Tryz.prog 128 uxr_ :=
 fnk (c:=ujs_) (l:=[(umq_,sub ujs_ [1,1,0,1,0])]) uuk_ Tryz.func128 ⟨⟨by kernel_rfl,u65_⟩,trivial⟩
def ubaf_:FSpec:=⟨[],[.val (.arr 6 (.map (.int .u8) (.int .i64)))],uw1_,true⟩
def ubag_:List (Nat×FSpec):=[]
theorem ubkw_:FsOK Tryz.prog ubag_:=trivial
def ubvt_:Env:=mkE ubag_ [] [] true
theorem ubns_:EnvOK Tryz.prog true ubvt_:=enk ubkw_
def ubvu_:Code:=u4_ Tryz.f46
theorem ubtj_:um_ Tryz.prog 46∧FunOK Tryz.prog 46 ubaf_ :=
 fnk (c:=ubvu_) (l:=[]) ubns_ Tryz.func46 trivial
def u3y_:FSpec:=⟨[.val .str],[.val (.int .i64),.val (.int .i64)],ur3_,true⟩
def ubhu_:List (Nat×FSpec):=[(46,ubaf_)]
theorem ubq0_:FsOK Tryz.prog ubhu_:=⟨ubtj_,trivial⟩
def u06_:CSpec:=⟨⟨[0,5,16,17],[.val .str,.box (.val (.arr 6 (.int .i64))),.val (.arr 6 (.map (.int .u8) (.int .i64))),.val (.int .i64)]⟩,[((.exit 0),⟨[5],[.box (.val (.arr 6 (.int .i64)))]⟩),(.ret,⟨[2,3],[.val (.int .i64),.val (.int .i64)]⟩)],([2,3,6,7,8,9]++seg 17 18),u3r_,[]⟩
def ub0q_:Env:=mkE ubhu_ [(1,u06_)] [] true
theorem ubah_:EnvOK Tryz.prog true ub0q_:=enk ubq0_
def uxt_:Code:=u4_ Tryz.f19
theorem ubnt_:CutOK Tryz.prog true Tryz.f19.ntmps u06_ (sub uxt_ [1,1,1,1,0,1,0]) :=
 lok (body:=sub uxt_ [1,1,1,1,0,1,0,0]) (n:=2) (l:=[]) ubah_ trivial
theorem ubhv_:um_ Tryz.prog 19∧FunOK Tryz.prog 19 u3y_ :=
 fnk (c:=uxt_) (l:=[(u06_,sub uxt_ [1,1,1,1,0,1,0])]) ubah_ Tryz.func19 ⟨⟨by kernel_rfl,ubnt_⟩,trivial⟩
def ubkx_:FSpec:=⟨[.val .str],[.val .str],u6r_,true⟩
def ubxw_:List (Nat×FSpec):=[]
theorem ub0r_:FsOK Tryz.prog ubxw_:=trivial
def ubfn_:CSpec:=⟨⟨[3,9,10],[.own 5 (.int .u8) true,.val (.int .i64),.val (.int .i64)]⟩,[((.exit 0),⟨[3],[.own 5 (.int .u8) true]⟩)],([4,5]++seg 10 18),ubkj_,[(8,3)]⟩
def ub8n_:Env:=mkE ubxw_ [(0,ubfn_)] [7] true
theorem ubp4_:EnvOK Tryz.prog true ub8n_:=enk ub0r_
def ubfo_:Code:=u4_ Tryz.f203
theorem ubx8_:CutOK Tryz.prog true Tryz.f203.ntmps ubfn_ (sub ubfo_ [1,1,0,1,0]) :=
 lok (body:=sub ubfo_ [1,1,0,1,0,0]) (n:=1) (l:=[]) ubp4_ trivial
theorem ubxx_:um_ Tryz.prog 203∧FunOK Tryz.prog 203 ubkx_ :=
 fnk (c:=ubfo_) (l:=[(ubfn_,sub ubfo_ [1,1,0,1,0])]) ubp4_ Tryz.func203 ⟨⟨by kernel_rfl,ubx8_⟩,trivial⟩
def uh5_:FSpec:=⟨[.box (.val ZZ14),.val (.int .i64)],[],ufy_,true⟩
def ubai_:List (Nat×FSpec):=[]
theorem ubky_:FsOK Tryz.prog ubai_:=trivial
def ubvv_:Env:=mkE ubai_ [] [] true
theorem ubnu_:EnvOK Tryz.prog true ubvv_:=enk ubky_
def ubvw_:Code:=u4_ Tryz.f195
theorem ukz_:um_ Tryz.prog 195∧FunOK Tryz.prog 195 uh5_ :=
 fnk (c:=ubvw_) (l:=[]) ubnu_ Tryz.func195 trivial
def uk0_:FSpec:=⟨[.val (.ptr (.agg ZZ14))],[.val (.int .u8)],uen_,true⟩
def ubaj_:List (Nat×FSpec):=[]
theorem ubkz_:FsOK Tryz.prog ubaj_:=trivial
def ubvx_:Env:=mkE ubaj_ [] [] true
theorem ubnv_:EnvOK Tryz.prog true ubvx_:=enk ubkz_
def ubvy_:Code:=u4_ Tryz.f192
theorem uql_:um_ Tryz.prog 192∧FunOK Tryz.prog 192 uk0_ :=
 fnk (c:=ubvy_) (l:=[]) ubnv_ Tryz.func192 trivial
def u66_:FSpec:=⟨[.val (.int .u8)],[.val .bool],u18_,true⟩
def ubk0_:List (Nat×FSpec):=[]
theorem ubtk_:FsOK Tryz.prog ubk0_:=trivial
def ub2g_:Env:=mkE ubk0_ [] [] true
theorem ubvz_:EnvOK Tryz.prog true ub2g_:=enk ubtk_
def ub2h_:Code:=u4_ Tryz.f230
theorem ubk1_:um_ Tryz.prog 230∧FunOK Tryz.prog 230 u66_ :=
 fnk (c:=ub2h_) (l:=[]) ubvz_ Tryz.func230 trivial
def ubak_:FSpec:=⟨[.box (.val ZZ14),.val .bool],[.val .str],uw4_,true⟩
def ubal_:List (Nat×FSpec):=[(192,uk0_),(195,uh5_),(203,ubkx_),(230,u66_)]
theorem ubk2_:FsOK Tryz.prog ubal_:=⟨uql_,ukz_,ubxx_,ubk1_,trivial⟩
def uvj_:CSpec:=⟨⟨[0,7],[.box (.val ZZ14),.val (.int .i64)]⟩,[((.exit 0),⟨[0],[.box (.val ZZ14)]⟩),(.ret,⟨[0,4],[.box (.val ZZ14),.val .str]⟩)],([4,5]++seg 7 30),uw2_,[]⟩
def uvk_:CSpec:=⟨⟨[0],[.box (.val ZZ14)]⟩,[((.exit 2),⟨[0],[.box (.val ZZ14)]⟩)],(seg 53 29),uw3_,[]⟩
def uvl_:CSpec:=⟨⟨[0,45],[.box (.val ZZ14),.val .bool]⟩,[(.normal,⟨[0],[.box (.val ZZ14)]⟩)],(seg 46 36),uqd_,[]⟩
def ubv0_:Env:=mkE ubal_ [(0,uvj_),(4,uvk_),(3,uvl_)] [] true
theorem ul4_:EnvOK Tryz.prog true ubv0_:=enk ubk2_
def uca_:Code:=u4_ Tryz.f189
theorem ubiq_:CutOK Tryz.prog true Tryz.f189.ntmps uvj_ (sub uca_ [1,0,1,0]) :=
 lok (body:=sub uca_ [1,0,1,0,0]) (n:=1) (l:=[]) ul4_ trivial
theorem ubir_:CutOK Tryz.prog true Tryz.f189.ntmps uvk_ (sub uca_ [1,1,1,0,1,1,0]) :=
 lok (body:=sub uca_ [1,1,1,0,1,1,0,0]) (n:=5) (l:=[]) ul4_ trivial
theorem ubis_:CutOK Tryz.prog true Tryz.f189.ntmps uvl_ (sub uca_ [1,1,1,0,1]) :=
 brk (c:=uqv_ (sub uca_ [1,1,1,0,1])) (x:=sub uca_ [1,1,1,0,1,0]) (y:=sub uca_ [1,1,1,0,1,1]) (n:=3) (lx:=[]) (ly:=[(uvk_,sub uca_ [1,1,1,0,1,1,0])]) ul4_ trivial ⟨⟨by kernel_rfl,ubir_⟩,trivial⟩
theorem ubtl_:um_ Tryz.prog 189∧FunOK Tryz.prog 189 ubak_ :=
 fnk (c:=uca_) (l:=[(uvj_,sub uca_ [1,0,1,0]),(uvl_,sub uca_ [1,1,1,0,1])]) ul4_ Tryz.func189 ⟨⟨by kernel_rfl,ubiq_⟩,⟨by kernel_rfl,ubis_⟩,trivial⟩
def ub3u_:FSpec:=⟨[.val (.int .u8)],[.val (.int .i64)],ub41_,true⟩
def ub3v_:List (Nat×FSpec):=[]
theorem ub44_:FsOK Tryz.prog ub3v_:=trivial
def ucdk_:Env:=mkE ub3v_ [] [] true
theorem ub61_:EnvOK Tryz.prog true ucdk_:=enk ub44_
def ucdl_:Code:=u4_ Tryz.f257
theorem uca2_:um_ Tryz.prog 257∧FunOK Tryz.prog 257 ub3u_ :=
 fnk (c:=ucdl_) (l:=[]) ub61_ Tryz.func257 trivial
def u67_:FSpec:=⟨[.box (.val ZZ14)],[.val (.int .u8),.val .bool],uuz_,true⟩
def u68_:List (Nat×FSpec):=[(111,ugy_),(195,uh5_),(257,ub3u_)]
theorem ubit_:FsOK Tryz.prog u68_:=⟨ujb_,ukz_,uca2_,trivial⟩
def utf_:CSpec:=⟨⟨[0,6,7,63],[.box (.val ZZ14),.val (.int .i64),.val (.int .i64),.val .bool]⟩,[(.normal,⟨[0,7],[.box (.val ZZ14),.val (.int .i64)]⟩)],([7]++seg 64 12),unw_,[]⟩
def utg_:CSpec:=⟨⟨[0,5,6],[.box (.val ZZ14),.val (.int .i64),.val (.int .i64)]⟩,[((.exit 0),⟨[0,5],[.box (.val ZZ14),.val (.int .i64)]⟩),(.ret,⟨[0,2,3],[.box (.val ZZ14),.val (.int .u8),.val .bool]⟩)],([2,3,5,6,7]++seg 48 42),uve_,[]⟩
def ubtm_:Env:=mkE u68_ [(5,utf_),(3,utg_)] [] true
theorem urb_:EnvOK Tryz.prog true ubtm_:=enk ubit_
def uds_:Code:=u4_ Tryz.f231
theorem ubfp_:CutOK Tryz.prog true Tryz.f231.ntmps utf_ (sub uds_ [1,1,1,1,1,0,1,0,0,1,0,0,1,0,1]) :=
 brk (c:=uqv_ (sub uds_ [1,1,1,1,1,0,1,0,0,1,0,0,1,0,1])) (x:=sub uds_ [1,1,1,1,1,0,1,0,0,1,0,0,1,0,1,0]) (y:=sub uds_ [1,1,1,1,1,0,1,0,0,1,0,0,1,0,1,1]) (n:=5) (lx:=[]) (ly:=[]) urb_ trivial trivial
theorem ubfq_:CutOK Tryz.prog true Tryz.f231.ntmps utg_ (sub uds_ [1,1,1,1,1,0,1,0]) :=
 lok (body:=sub uds_ [1,1,1,1,1,0,1,0,0]) (n:=4) (l:=[(utf_,sub uds_ [1,1,1,1,1,0,1,0,0,1,0,0,1,0,1])]) urb_ ⟨⟨by kernel_rfl,ubfp_⟩,trivial⟩
theorem ubq1_:um_ Tryz.prog 231∧FunOK Tryz.prog 231 u67_ :=
 fnk (c:=uds_) (l:=[(utg_,sub uds_ [1,1,1,1,1,0,1,0])]) urb_ Tryz.func231 ⟨⟨by kernel_rfl,ubfq_⟩,trivial⟩
def uqm_:FSpec:=⟨[.box (.val ZZ14)],[.val .str],ui6_,true⟩
def ubam_:List (Nat×FSpec):=[(195,uh5_),(231,u67_)]
theorem ubk3_:FsOK Tryz.prog ubam_:=⟨ukz_,ubq1_,trivial⟩
def uvm_:CSpec:=⟨⟨[0,3],[.box (.val ZZ14),.own 5 (.int .u8) false]⟩,[((.exit 0),⟨[0,3],[.box (.val ZZ14),.own 5 (.int .u8) false]⟩)],(seg 3 19),uw5_,[]⟩
def ubv1_:Env:=mkE ubam_ [(0,uvm_)] [] true
theorem u4x_:EnvOK Tryz.prog true ubv1_:=enk ubk3_
def usa_:Code:=u4_ Tryz.f193
theorem ubiu_:CutOK Tryz.prog true Tryz.f193.ntmps uvm_ (sub usa_ [1,1,0,0]) :=
 lok (body:=sub usa_ [1,1,0,0,0]) (n:=1) (l:=[]) u4x_ trivial
theorem uxu_:um_ Tryz.prog 193∧FunOK Tryz.prog 193 uqm_ :=
 fnk (c:=usa_) (l:=[(uvm_,sub usa_ [1,1,0,0])]) u4x_ Tryz.func193 ⟨⟨by kernel_rfl,ubiu_⟩,trivial⟩
def u69_:FSpec:=⟨[.box (.val ZZ14)],[.val (.slice .str)],uo0_,true⟩
def u7a_:List (Nat×FSpec):=[(192,uk0_),(193,uqm_)]
theorem ubiv_:FsOK Tryz.prog u7a_:=⟨uql_,uxu_,trivial⟩
def uth_:CSpec:=⟨⟨[0,3],[.box (.val ZZ14),.own 9 .str false]⟩,[((.exit 0),⟨[0,3],[.box (.val ZZ14),.own 9 .str false]⟩)],([3]++seg 7 22),uvf_,[]⟩
def ubtn_:Env:=mkE u7a_ [(0,uth_)] [] true
theorem u2h_:EnvOK Tryz.prog true ubtn_:=enk ubiv_
def uqn_:Code:=u4_ Tryz.f190
theorem ubfr_:CutOK Tryz.prog true Tryz.f190.ntmps uth_ (sub uqn_ [1,1,0,0]) :=
 lok (body:=sub uqn_ [1,1,0,0,0]) (n:=1) (l:=[]) u2h_ trivial
theorem ubq2_:um_ Tryz.prog 190∧FunOK Tryz.prog 190 u69_ :=
 fnk (c:=uqn_) (l:=[(uth_,sub uqn_ [1,1,0,0])]) u2h_ Tryz.func190 ⟨⟨by kernel_rfl,ubfr_⟩,trivial⟩
def u7b_:FSpec:=⟨[.val (.int .u8),.val .bool],[.val .bool],u19_,true⟩
def ubk4_:List (Nat×FSpec):=[]
theorem ubto_:FsOK Tryz.prog ubk4_:=trivial
def ub2i_:Env:=mkE ubk4_ [] [] true
theorem ubv2_:EnvOK Tryz.prog true ub2i_:=enk ubto_
def ub2j_:Code:=u4_ Tryz.f232
theorem ubk5_:um_ Tryz.prog 232∧FunOK Tryz.prog 232 u7b_ :=
 fnk (c:=ub2j_) (l:=[]) ubv2_ Tryz.func232 trivial
def uxv_:FSpec:=⟨[.box (.val ZZ14)],[.val ZZ8],ulx_,true⟩
def uxw_:List (Nat×FSpec):=[(192,uk0_),(193,uqm_),(195,uh5_),(232,u7b_)]
theorem u8t_:FsOK Tryz.prog uxw_:=⟨uql_,uxu_,ukz_,ubk5_,trivial⟩
def umr_:CSpec:=⟨⟨[0,3],[.box (.val ZZ14),.val (.int .i64)]⟩,[((.exit 0),⟨[0],[.box (.val ZZ14)]⟩)],(seg 9 35),unx_,[]⟩
def ubiw_:Env:=mkE uxw_ [(0,umr_)] [] true
theorem uul_:EnvOK Tryz.prog true ubiw_:=enk u8t_
def ujt_:Code:=u4_ Tryz.f194
theorem u7c_:CutOK Tryz.prog true Tryz.f194.ntmps umr_ (sub ujt_ [1,1,0,0]) :=
 lok (body:=sub ujt_ [1,1,0,0,0]) (n:=1) (l:=[]) uul_ trivial
theorem ubfs_:um_ Tryz.prog 194∧FunOK Tryz.prog 194 uxv_ :=
 fnk (c:=ujt_) (l:=[(umr_,sub ujt_ [1,1,0,0])]) uul_ Tryz.func194 ⟨⟨by kernel_rfl,u7c_⟩,trivial⟩
def uban_:FSpec:=⟨[.box (.val ZZ14)],[.tr (.pr (.val .str) (.pr (.val .str) (.pr (.val .str) (.pr (.val .str) (.pr (.own 234 ZZ8 true) (.val .str))))))],uw8_,false⟩
def ubao_:List (Nat×FSpec):=[(189,ubak_),(190,u69_),(191,upo_),(192,uk0_),(193,uqm_),(194,uxv_),(195,uh5_)]
theorem ubk6_:FsOK Tryz.prog ubao_:=⟨ubtl_,ubq2_,uuj_,uql_,uxu_,ubfs_,ukz_,trivial⟩
def uvn_:CSpec:=⟨⟨[0,3,40],[.box (.val ZZ14),.box (.pr (.val .str) (.pr (.val .str) (.pr (.val .str) (.pr (.val .str) (.pr (.own 234 ZZ8 true) (.val .str)))))),.val .bool]⟩,[(.normal,⟨[0,3],[.box (.val ZZ14),.box (.pr (.val .str) (.pr (.val .str) (.pr (.val .str) (.pr (.val .str) (.pr (.own 234 ZZ8 true) (.val .str))))))]⟩)],(seg 41 10),uqe_,[]⟩
def uvo_:CSpec:=⟨⟨[0,3,5],[.box (.val ZZ14),.box (.pr (.val .str) (.pr (.val .str) (.pr (.val .str) (.pr (.val .str) (.pr (.own 234 ZZ8 true) (.val .str)))))),.val (.int .u8)]⟩,[((.exit 0),⟨[0,3],[.box (.val ZZ14),.box (.pr (.val .str) (.pr (.val .str) (.pr (.val .str) (.pr (.val .str) (.pr (.own 234 ZZ8 true) (.val .str))))))]⟩)],([5]++seg 51 37),uw7_,[]⟩
def uvp_:CSpec:=⟨⟨[0,3,97],[.box (.val ZZ14),.box (.pr (.val .str) (.pr (.val .str) (.pr (.val .str) (.pr (.val .str) (.pr (.own 234 ZZ8 true) (.val .str)))))),.val .bool]⟩,[(.normal,⟨[0,3],[.box (.val ZZ14),.box (.pr (.val .str) (.pr (.val .str) (.pr (.val .str) (.pr (.val .str) (.pr (.own 234 ZZ8 true) (.val .str))))))]⟩)],(seg 98 11),uqf_,[]⟩
def ubv3_:Env:=mkE ubao_ [(1,uvn_),(2,uvo_),(4,uvp_)] [2,8,14,132] false
theorem ul5_:EnvOK Tryz.prog false ubv3_:=enk ubk6_
def ubr_:Code:=u4_ Tryz.f145
theorem ubix_:CutOK Tryz.prog false Tryz.f145.ntmps uvn_ (sub ubr_ [1,1,1,1,1,0,1]) :=
 brk (c:=uqv_ (sub ubr_ [1,1,1,1,1,0,1])) (x:=sub ubr_ [1,1,1,1,1,0,1,0]) (y:=sub ubr_ [1,1,1,1,1,0,1,1]) (n:=1) (lx:=[]) (ly:=[]) ul5_ trivial trivial
theorem ubiy_:CutOK Tryz.prog false Tryz.f145.ntmps uvo_ (sub ubr_ [1,1,1,1,1,1,0,1,0]) :=
 lok (body:=sub ubr_ [1,1,1,1,1,1,0,1,0,0]) (n:=3) (l:=[]) ul5_ trivial
theorem ubiz_:CutOK Tryz.prog false Tryz.f145.ntmps uvp_ (sub ubr_ [1,1,1,1,1,1,1,0,1]) :=
 brk (c:=uqv_ (sub ubr_ [1,1,1,1,1,1,1,0,1])) (x:=sub ubr_ [1,1,1,1,1,1,1,0,1,0]) (y:=sub ubr_ [1,1,1,1,1,1,1,0,1,1]) (n:=4) (lx:=[]) (ly:=[]) ul5_ trivial trivial
theorem ubtp_:um_ Tryz.prog 145∧FunOK Tryz.prog 145 uban_ :=
 fnk (c:=ubr_) (l:=[(uvn_,sub ubr_ [1,1,1,1,1,0,1]),(uvo_,sub ubr_ [1,1,1,1,1,1,0,1,0]),(uvp_,sub ubr_ [1,1,1,1,1,1,1,0,1])]) ul5_ Tryz.func145 ⟨⟨by kernel_rfl,ubix_⟩,⟨by kernel_rfl,ubiy_⟩,⟨by kernel_rfl,ubiz_⟩,trivial⟩
def uh6_:FSpec:=⟨[.io 234 ZZ8,.val (.int .i64),.val (.int .i64),.hof false ZZ21 (.int .i64)],[],uby_,false⟩
def uh7_:List (Nat×FSpec):=[]
theorem upu_:FsOK Tryz.prog uh7_:=trivial
def ud4_:CSpec:=⟨⟨[0,1,3,9],[.own 234 ZZ8 true,.val (.int .i64),.hof false ZZ21 (.int .i64),.val (.int .i64)]⟩,[((.exit 2),⟨[0],[.own 234 ZZ8 true]⟩)],([9]++seg 18 35),ued_,[]⟩
def ud5_:CSpec:=⟨⟨[0,1,2,3,8],[.own 234 ZZ8 true,.val (.int .i64),.val (.int .i64),.hof false ZZ21 (.int .i64),.val (.int .i64)]⟩,[((.exit 0),⟨[0],[.own 234 ZZ8 true]⟩)],([8,9]++seg 12 41),uee_,[]⟩
def uti_:Env:=mkE uh7_ [(2,ud4_),(0,ud5_)] [] false
theorem ud1_:EnvOK Tryz.prog false uti_:=enk upu_
def ubd_:Code:=u4_ Tryz.f233
theorem uo5_:CutOK Tryz.prog false Tryz.f233.ntmps ud4_ (sub ubd_ [1,0,0,1,0,0,1,0]) :=
 lok (body:=sub ubd_ [1,0,0,1,0,0,1,0,0]) (n:=3) (l:=[]) ud1_ trivial
theorem uo6_:CutOK Tryz.prog false Tryz.f233.ntmps ud5_ (sub ubd_ [1,0]) :=
 lok (body:=sub ubd_ [1,0,0]) (n:=1) (l:=[(ud4_,sub ubd_ [1,0,0,1,0,0,1,0])]) ud1_ ⟨⟨by kernel_rfl,uo5_⟩,trivial⟩
theorem usb_:um_ Tryz.prog 233∧FunOK Tryz.prog 233 uh6_ :=
 fnk (c:=ubd_) (l:=[(ud5_,sub ubd_ [1,0])]) ud1_ Tryz.func233 ⟨⟨by kernel_rfl,uo6_⟩,trivial⟩
def ujz_:FSpec:=⟨[.io 234 ZZ8,.val (.int .i64),.val (.int .i64),.val (.int .i64),.hof false ZZ21 (.int .i64)],[],ubw_,true⟩
def uj0_:List (Nat×FSpec):=[]
theorem utj_:FsOK Tryz.prog uj0_:=trivial
def ue0_:CSpec:=⟨⟨[0,1,2,3,10],[.own 234 ZZ8 true,.val (.int .i64),.val (.int .i64),.val (.int .i64),.val (.int .i64)]⟩,[((.exit 0),⟨[0],[.own 234 ZZ8 true]⟩)],(seg 10 28),ufj_,[]⟩
def uxx_:Env:=mkE uj0_ [(0,ue0_)] [] true
theorem ui2_:EnvOK Tryz.prog true uxx_:=enk utj_
def udt_:Code:=u4_ Tryz.f273
theorem usc_:CutOK Tryz.prog true Tryz.f273.ntmps ue0_ (sub udt_ [1,0]) :=
 lok (body:=sub udt_ [1,0,0]) (n:=1) (l:=[]) ui2_ trivial
theorem uwt_:um_ Tryz.prog 273∧FunOK Tryz.prog 273 ujz_ :=
 fnk (c:=udt_) (l:=[(ue0_,sub udt_ [1,0])]) ui2_ Tryz.func273 ⟨⟨by kernel_rfl,usc_⟩,trivial⟩
def ums_:FSpec:=⟨[.io 234 ZZ8,.val (.int .i64),.val (.int .i64),.val (.int .i64),.hof false ZZ21 (.int .i64)],[],uff_,true⟩
def umt_:List (Nat×FSpec):=[(273,ujz_)]
theorem uwu_:FsOK Tryz.prog umt_:=⟨uwt_,trivial⟩
def ugf_:CSpec:=⟨⟨[0,2,4,10,11],[.own 234 ZZ8 true,.val (.int .i64),.hof false ZZ21 (.int .i64),.val (.int .i64),.val (.int .i64)]⟩,[((.exit 0),⟨[0,10],[.own 234 ZZ8 true,.val (.int .i64)]⟩)],([10,11]++seg 18 32),ugr_,[]⟩
def u2i_:Env:=mkE umt_ [(0,ugf_)] [] true
theorem uk1_:EnvOK Tryz.prog true u2i_:=enk uwu_
def uel_:Code:=u4_ Tryz.f258
theorem uvq_:CutOK Tryz.prog true Tryz.f258.ntmps ugf_ (sub uel_ [1,1,0,0]) :=
 lok (body:=sub uel_ [1,1,0,0,0]) (n:=1) (l:=[]) uk1_ trivial
theorem u07_:um_ Tryz.prog 258∧FunOK Tryz.prog 258 ums_ :=
 fnk (c:=uel_) (l:=[(ugf_,sub uel_ [1,1,0,0])]) uk1_ Tryz.func258 ⟨⟨by kernel_rfl,uvq_⟩,trivial⟩
def up_ (n:Nat):FSpec:=⟨[.io 234 ZZ8,.val (.int .i64),.val (.int .i64),.val (.int .i64),.hof false ZZ21 (.int .i64)],[],uu_ n,false⟩
def uk2_:FSpec:=⟨[.io 234 ZZ8,.val (.int .i64),.val (.int .i64),.val (.int .i64),.hof false ZZ21 (.int .i64)],[],ucw_,false⟩
def uk3_ (n:Nat):List (Nat×FSpec):=[(234,(up_ n)),(258,ums_)]
theorem uum_ (n:Nat) (ih:um_ Tryz.prog 234∧FunOK Tryz.prog 234 (up_ n)):FsOK Tryz.prog (uk3_ n):=⟨ih,u07_,trivial⟩
def ufm_ (n:Nat):CSpec:=⟨⟨[0,1,4,10,11],[.own 234 ZZ8 true,.val (.int .i64),.hof false ZZ21 (.int .i64),.val (.int .i64),.val (.int .i64)]⟩,[((.exit 0),⟨[0,10],[.own 234 ZZ8 true,.val (.int .i64)]⟩)],([10,11,12]++seg 31 23),(ufz_ (uu_ n)),[]⟩
def ufn_ (n:Nat):CSpec:=⟨⟨[0,10,13],[.own 234 ZZ8 true,.val (.int .i64),.val (.int .i64)]⟩,[((.exit 2),⟨[0],[.own 234 ZZ8 true]⟩)],([13]++seg 55 22),(uf0_ (uu_ n)),[]⟩
def ufo_ (n:Nat):CSpec:=⟨⟨[0,2,4,14,15],[.own 234 ZZ8 true,.val (.int .i64),.hof false ZZ21 (.int .i64),.val (.int .i64),.val (.int .i64)]⟩,[((.exit 4),⟨[0,14],[.own 234 ZZ8 true,.val (.int .i64)]⟩)],([14,15,16]++seg 83 24),(uf1_ (uu_ n)),[]⟩
def ue1_ (n:Nat):CSpec:=⟨⟨[0,14,17],[.own 234 ZZ8 true,.val (.int .i64),.val (.int .i64)]⟩,[((.exit 6),⟨[0],[.own 234 ZZ8 true]⟩)],([17]++seg 108 21),(ufk_ (uu_ n)),[]⟩
def ue2_ (n:Nat):CSpec:=⟨⟨[1,2,3,18,19,140],[.val (.int .i64),.val (.int .i64),.val (.int .i64),.val (.int .i64),.val (.int .i64),.val .bool]⟩,[(.normal,⟨[20,21],[.val (.int .i64),.val (.int .i64)]⟩)],[20,21,141,142,143,144,145,146],(udg_ (uu_ n)),[]⟩
def ue3_ (n:Nat):CSpec:=⟨⟨[0,4,20,21,22],[.own 234 ZZ8 true,.hof false ZZ21 (.int .i64),.val (.int .i64),.val (.int .i64),.val (.int .i64)]⟩,[((.exit 8),⟨[0,20],[.own 234 ZZ8 true,.val (.int .i64)]⟩)],([20,21,23]++seg 149 26),(ufl_ (uu_ n)),[]⟩
def ue4_ (n:Nat):CSpec:=⟨⟨[0,2,4,20,24,185],[.own 234 ZZ8 true,.val (.int .i64),.hof false ZZ21 (.int .i64),.val (.int .i64),.val (.int .i64),.val .bool]⟩,[(.normal,⟨[0],[.own 234 ZZ8 true]⟩)],[186,187,188,189,190,191],(udh_ (uu_ n)),[]⟩
def ue5_ (n:Nat):CSpec:=⟨⟨[0,1,4,18,20,199],[.own 234 ZZ8 true,.val (.int .i64),.hof false ZZ21 (.int .i64),.val (.int .i64),.val (.int .i64),.val .bool]⟩,[(.normal,⟨[0],[.own 234 ZZ8 true]⟩)],[200,201,202,203,204,205],(udi_ (uu_ n)),[]⟩
def uzd_ (n:Nat):Env:=mkE (uk3_ n) [(1,(ufm_ n)),(4,(ufn_ n)),(7,(ufo_ n)),(10,(ue1_ n)),(12,(ue2_ n)),(13,(ue3_ n)),(16,(ue4_ n)),(17,(ue5_ n))] [] false
theorem u7_ (n:Nat) (ih:um_ Tryz.prog 234∧FunOK Tryz.prog 234 (up_ n)):EnvOK Tryz.prog false (uzd_ n):=enk (uum_ n ih)
def uf_:Code:=u4_ Tryz.f234
theorem utk_ (n:Nat) (ih:um_ Tryz.prog 234∧FunOK Tryz.prog 234 (up_ n)):CutOK Tryz.prog false Tryz.f234.ntmps (ufm_ n) (sub uf_ [0,1,0,1,1,0,0]) :=
 lok (body:=sub uf_ [0,1,0,1,1,0,0,0]) (n:=2) (l:=[]) (u7_ n ih) trivial
theorem utl_ (n:Nat) (ih:um_ Tryz.prog 234∧FunOK Tryz.prog 234 (up_ n)):CutOK Tryz.prog false Tryz.f234.ntmps (ufn_ n) (sub uf_ [0,1,0,1,1,1,0,1,0]) :=
 lok (body:=sub uf_ [0,1,0,1,1,1,0,1,0,0]) (n:=5) (l:=[]) (u7_ n ih) trivial
theorem utm_ (n:Nat) (ih:um_ Tryz.prog 234∧FunOK Tryz.prog 234 (up_ n)):CutOK Tryz.prog false Tryz.f234.ntmps (ufo_ n) (sub uf_ [1,0,1,0,1,1,0,0]) :=
 lok (body:=sub uf_ [1,0,1,0,1,1,0,0,0]) (n:=8) (l:=[]) (u7_ n ih) trivial
theorem usd_ (n:Nat) (ih:um_ Tryz.prog 234∧FunOK Tryz.prog 234 (up_ n)):CutOK Tryz.prog false Tryz.f234.ntmps (ue1_ n) (sub uf_ [1,0,1,0,1,1,1,0,1,0]) :=
 lok (body:=sub uf_ [1,0,1,0,1,1,1,0,1,0,0]) (n:=11) (l:=[]) (u7_ n ih) trivial
theorem use_ (n:Nat) (ih:um_ Tryz.prog 234∧FunOK Tryz.prog 234 (up_ n)):CutOK Tryz.prog false Tryz.f234.ntmps (ue2_ n) (sub uf_ [1,1,1,1,1,0,1]) :=
 brk (c:=uqv_ (sub uf_ [1,1,1,1,1,0,1])) (x:=sub uf_ [1,1,1,1,1,0,1,0]) (y:=sub uf_ [1,1,1,1,1,0,1,1]) (n:=12) (lx:=[]) (ly:=[]) (u7_ n ih) trivial trivial
theorem usf_ (n:Nat) (ih:um_ Tryz.prog 234∧FunOK Tryz.prog 234 (up_ n)):CutOK Tryz.prog false Tryz.f234.ntmps (ue3_ n) (sub uf_ [1,1,1,1,1,1,1,0,0]) :=
 lok (body:=sub uf_ [1,1,1,1,1,1,1,0,0,0]) (n:=14) (l:=[]) (u7_ n ih) trivial
theorem usg_ (n:Nat) (ih:um_ Tryz.prog 234∧FunOK Tryz.prog 234 (up_ n)):CutOK Tryz.prog false Tryz.f234.ntmps (ue4_ n) (sub uf_ [1,1,1,1,1,1,1,1,1,0,1]) :=
 brk (c:=uqv_ (sub uf_ [1,1,1,1,1,1,1,1,1,0,1])) (x:=sub uf_ [1,1,1,1,1,1,1,1,1,0,1,0]) (y:=sub uf_ [1,1,1,1,1,1,1,1,1,0,1,1]) (n:=16) (lx:=[]) (ly:=[]) (u7_ n ih) trivial trivial
theorem ush_ (n:Nat) (ih:um_ Tryz.prog 234∧FunOK Tryz.prog 234 (up_ n)):CutOK Tryz.prog false Tryz.f234.ntmps (ue5_ n) (sub uf_ [1,1,1,1,1,1,1,1,1,1,0,1]) :=
 brk (c:=uqv_ (sub uf_ [1,1,1,1,1,1,1,1,1,1,0,1])) (x:=sub uf_ [1,1,1,1,1,1,1,1,1,1,0,1,0]) (y:=sub uf_ [1,1,1,1,1,1,1,1,1,1,0,1,1]) (n:=17) (lx:=[]) (ly:=[]) (u7_ n ih) trivial trivial
theorem uvr_ (n:Nat) (ih:um_ Tryz.prog 234∧FunOK Tryz.prog 234 (up_ n)):um_ Tryz.prog 234∧FunOK Tryz.prog 234 (up_ (n+1)) :=
 fnk (c:=uf_) (l:=[((ufm_ n),sub uf_ [0,1,0,1,1,0,0]),((ufn_ n),sub uf_ [0,1,0,1,1,1,0,1,0]),((ufo_ n),sub uf_ [1,0,1,0,1,1,0,0]),((ue1_ n),sub uf_ [1,0,1,0,1,1,1,0,1,0]),((ue2_ n),sub uf_ [1,1,1,1,1,0,1]),((ue3_ n),sub uf_ [1,1,1,1,1,1,1,0,0]),((ue4_ n),sub uf_ [1,1,1,1,1,1,1,1,1,0,1]),((ue5_ n),sub uf_ [1,1,1,1,1,1,1,1,1,1,0,1])]) (u7_ n ih) Tryz.func234 ⟨⟨by kernel_rfl,(utk_ n ih)⟩,⟨by kernel_rfl,(utl_ n ih)⟩,⟨by kernel_rfl,(utm_ n ih)⟩,⟨by kernel_rfl,(usd_ n ih)⟩,⟨by kernel_rfl,(use_ n ih)⟩,⟨by kernel_rfl,(usf_ n ih)⟩,⟨by kernel_rfl,(usg_ n ih)⟩,⟨by kernel_rfl,(ush_ n ih)⟩,trivial⟩
theorem uvs_:∀ n,um_ Tryz.prog 234∧FunOK Tryz.prog 234 (up_ n):=fun n=>Nat.rec ⟨⟨Tryz.f234,uf_,Tryz.func234,by kernel_rfl,by kernel_rfl⟩,fun w I v args bs _ _ _ r hr=>by cases hr⟩ (fun n ih=>uvr_ n ih) n
theorem uxy_:um_ Tryz.prog 234∧FunOK Tryz.prog 234 uk2_:=uvs_ 100
def umu_:FSpec:=⟨[.io 234 ZZ8,.val (.int .i64),.hof false ZZ21 (.int .i64)],[],ufg_,false⟩
def umv_:List (Nat×FSpec):=[(233,uh6_),(234,uk2_)]
theorem uwv_:FsOK Tryz.prog umv_:=⟨usb_,uxy_,trivial⟩
def ugg_:CSpec:=⟨⟨[0,1,2,6,7,8],[.own 234 ZZ8 true,.val (.int .i64),.hof false ZZ21 (.int .i64),.val (.int .i64),.val (.int .i64),.val (.int .i64)]⟩,[((.exit 0),⟨[0,7],[.own 234 ZZ8 true,.val (.int .i64)]⟩)],([7,8]++seg 11 12),ugs_,[]⟩
def ugh_:CSpec:=⟨⟨[0,1,2,6,7,8],[.own 234 ZZ8 true,.val (.int .i64),.hof false ZZ21 (.int .i64),.val (.int .i64),.val (.int .i64),.val (.int .i64)]⟩,[((.exit 4),⟨[0,7],[.own 234 ZZ8 true,.val (.int .i64)]⟩)],([7,8]++seg 33 16),ugt_,[]⟩
def ugi_:CSpec:=⟨⟨[0,1,2,6],[.own 234 ZZ8 true,.val (.int .i64),.hof false ZZ21 (.int .i64),.val (.int .i64)]⟩,[((.exit 2),⟨[0],[.own 234 ZZ8 true]⟩)],([6,7,8,9]++seg 28 35),ugu_,[]⟩
def u2j_:Env:=mkE umv_ [(0,ugg_),(4,ugh_),(2,ugi_)] [] false
theorem udu_:EnvOK Tryz.prog false u2j_:=enk uwv_
def ubb_:Code:=u4_ Tryz.f196
theorem uvt_:CutOK Tryz.prog false Tryz.f196.ntmps ugg_ (sub ubb_ [1,1,0,0]) :=
 lok (body:=sub ubb_ [1,1,0,0,0]) (n:=1) (l:=[]) udu_ trivial
theorem uvu_:CutOK Tryz.prog false Tryz.f196.ntmps ugh_ (sub ubb_ [1,1,1,1,0,0,1,0,1,0,0]) :=
 lok (body:=sub ubb_ [1,1,1,1,0,0,1,0,1,0,0,0]) (n:=5) (l:=[]) udu_ trivial
theorem uvv_:CutOK Tryz.prog false Tryz.f196.ntmps ugi_ (sub ubb_ [1,1,1,1,0]) :=
 lok (body:=sub ubb_ [1,1,1,1,0,0]) (n:=3) (l:=[(ugh_,sub ubb_ [1,1,1,1,0,0,1,0,1,0,0])]) udu_ ⟨⟨by kernel_rfl,uvu_⟩,trivial⟩
theorem u08_:um_ Tryz.prog 196∧FunOK Tryz.prog 196 umu_ :=
 fnk (c:=ubb_) (l:=[(ugg_,sub ubb_ [1,1,0,0]),(ugi_,sub ubb_ [1,1,1,1,0])]) udu_ Tryz.func196 ⟨⟨by kernel_rfl,uvt_⟩,⟨by kernel_rfl,uvv_⟩,trivial⟩
def ulu_:FSpec:=⟨[.io 234 ZZ8,.hof false ZZ21 (.int .i64)],[],uer_,false⟩
def ulv_:List (Nat×FSpec):=[(196,umu_)]
theorem uvw_:FsOK Tryz.prog ulv_:=⟨u08_,trivial⟩
def u09_:Env:=mkE ulv_ [] [] false
theorem uww_:EnvOK Tryz.prog false u09_:=enk uvw_
def u1a_:Code:=u4_ Tryz.f146
theorem uze_:um_ Tryz.prog 146∧FunOK Tryz.prog 146 ulu_ :=
 fnk (c:=u1a_) (l:=[]) uww_ Tryz.func146 trivial
def ubap_:FSpec:=⟨[.val .str],[.val .bool],umh_,true⟩
def ubaq_:List (Nat×FSpec):=[]
theorem ubk7_:FsOK Tryz.prog ubaq_:=trivial
def ubv4_:Env:=mkE ubaq_ [] [] true
theorem ubnw_:EnvOK Tryz.prog true ubv4_:=enk ubk7_
def ubv5_:Code:=u4_ Tryz.f71
theorem ubtq_:um_ Tryz.prog 71∧FunOK Tryz.prog 71 ubap_ :=
 fnk (c:=ubv5_) (l:=[]) ubnw_ Tryz.func71 trivial
def ugd_:FSpec:=⟨[.val .str,.val .str],[.val (.int .i64)],udj_,true⟩
def u4y_:List (Nat×FSpec):=[(71,ubap_)]
theorem ubft_:FsOK Tryz.prog u4y_:=⟨ubtq_,trivial⟩
def ubq3_:Env:=mkE u4y_ [] [] true
theorem ubi0_:EnvOK Tryz.prog true ubq3_:=enk ubft_
def ubq4_:Code:=u4_ Tryz.f34
theorem uim_:um_ Tryz.prog 34∧FunOK Tryz.prog 34 ugd_ :=
 fnk (c:=ubq4_) (l:=[]) ubi0_ Tryz.func34 trivial
def ubp5_:FSpec:=⟨[.val ZZ8,.val ZZ8],[.val (.int .i64)],ube8_,true⟩
def ubp6_:List (Nat×FSpec):=[(34,ugd_)]
theorem ubv6_:FsOK Tryz.prog ubp6_:=⟨uim_,trivial⟩
def ub45_:Env:=mkE ubp6_ [] [] true
theorem ubx9_:EnvOK Tryz.prog true ub45_:=enk ubv6_
def ub46_:Code:=u4_ Tryz.f147
theorem ub2k_:um_ Tryz.prog 147∧FunOK Tryz.prog 147 ubp5_ :=
 fnk (c:=ub46_) (l:=[]) ubx9_ Tryz.func147 trivial
def ubk8_:FSpec:=⟨[],[.val (.arr 5 ZZ19)],ubta_,true⟩
def ubxy_:List (Nat×FSpec):=[]
theorem ub0s_:FsOK Tryz.prog ubxy_:=trivial
def ub8o_:Env:=mkE ubxy_ [] [] true
theorem ub2l_:EnvOK Tryz.prog true ub8o_:=enk ub0s_
def ub8p_:Code:=u4_ Tryz.f236
theorem ubxz_:um_ Tryz.prog 236∧FunOK Tryz.prog 236 ubk8_ :=
 fnk (c:=ub8p_) (l:=[]) ub2l_ Tryz.func236 trivial
def ubx0_:FSpec:=⟨[.val .str],[.val (.int .i64)],ubtb_,true⟩
def ubx1_:List (Nat×FSpec):=[(236,ubk8_)]
theorem ub0t_:FsOK Tryz.prog ubx1_:=⟨ubxz_,trivial⟩
def ubfu_:CSpec:=⟨⟨[0,5,6],[.val .str,.val (.arr 5 ZZ19),.val (.int .i64)]⟩,[((.exit 0),⟨[],[]⟩),(.ret,⟨[2],[.val (.int .i64)]⟩)],([2,3,4]++seg 6 10),ubkk_,[]⟩
def ub8q_:Env:=mkE ubx1_ [(0,ubfu_)] [] true
theorem ubp7_:EnvOK Tryz.prog true ub8q_:=enk ub0t_
def ubfv_:Code:=u4_ Tryz.f235
theorem ubya_:CutOK Tryz.prog true Tryz.f235.ntmps ubfu_ (sub ubfv_ [1,0,1,0]) :=
 lok (body:=sub ubfv_ [1,0,1,0,0]) (n:=1) (l:=[]) ubp7_ trivial
theorem ub62_:um_ Tryz.prog 235∧FunOK Tryz.prog 235 ubx0_ :=
 fnk (c:=ubfv_) (l:=[(ubfu_,sub ubfv_ [1,0,1,0])]) ubp7_ Tryz.func235 ⟨⟨by kernel_rfl,ubya_⟩,trivial⟩
def ubq5_:FSpec:=⟨[.val .str],[.val ZZ19,.val (.int .i64)],ubtc_,true⟩
def ub0u_:List (Nat×FSpec):=[(235,ubx0_),(236,ubk8_)]
theorem ub2m_:FsOK Tryz.prog ub0u_:=⟨ub62_,ubxz_,trivial⟩
def uca3_:Env:=mkE ub0u_ [] [] true
theorem ub47_:EnvOK Tryz.prog true uca3_:=enk ub2m_
def uca4_:Code:=u4_ Tryz.f197
theorem ub0v_:um_ Tryz.prog 197∧FunOK Tryz.prog 197 ubq5_ :=
 fnk (c:=uca4_) (l:=[]) ub47_ Tryz.func197 trivial
def ub0w_:FSpec:=⟨[.val (.agg ZZ10)],[.val .bool],ubzp_,true⟩
def ub0x_:List (Nat×FSpec):=[]
theorem ub2n_:FsOK Tryz.prog ub0x_:=trivial
def ubk9_:CSpec:=⟨⟨[15,16,17],[.own 9 .str false,.val (.int .i64),.val (.int .i64)]⟩,[((.exit 0),⟨[],[]⟩),(.ret,⟨[2],[.val .bool]⟩)],([2,4]++seg 17 8),ubqt_,[]⟩
def ubla_:CSpec:=⟨⟨[26,27,28],[.val (.slice ZZ8),.val (.int .i64),.val (.int .i64)]⟩,[((.exit 2),⟨[],[]⟩),(.ret,⟨[2],[.val .bool]⟩)],([2,6]++seg 28 15),ubqu_,[]⟩
def uca5_:Env:=mkE ub0x_ [(0,ubk9_),(3,ubla_)] [] true
theorem ubfw_:EnvOK Tryz.prog true uca5_:=enk ub2n_
def u1b_:Code:=u4_ Tryz.f198
theorem ub0y_:CutOK Tryz.prog true Tryz.f198.ntmps ubk9_ (sub u1b_ [1,0,1,0]) :=
 lok (body:=sub u1b_ [1,0,1,0,0]) (n:=1) (l:=[]) ubfw_ trivial
theorem ub0z_:CutOK Tryz.prog true Tryz.f198.ntmps ubla_ (sub u1b_ [1,1,0,1,0]) :=
 lok (body:=sub u1b_ [1,1,0,1,0,0]) (n:=4) (l:=[]) ubfw_ trivial
theorem ub8r_:um_ Tryz.prog 198∧FunOK Tryz.prog 198 ub0w_ :=
 fnk (c:=u1b_) (l:=[(ubk9_,sub u1b_ [1,0,1,0]),(ubla_,sub u1b_ [1,1,0,1,0])]) ubfw_ Tryz.func198 ⟨⟨by kernel_rfl,ub0y_⟩,⟨by kernel_rfl,ub0z_⟩,trivial⟩
def u7d_:FSpec:=⟨[.val .str],[.val (.slice .str)],uv7_,true⟩
def ublb_:List (Nat×FSpec):=[(216,u63_)]
theorem ubtr_:FsOK Tryz.prog ublb_:=⟨ubkt_,trivial⟩
def ub2o_:Env:=mkE ublb_ [] [] true
theorem ubv7_:EnvOK Tryz.prog true ub2o_:=enk ubtr_
def ub2p_:Code:=u4_ Tryz.f200
theorem ublc_:um_ Tryz.prog 200∧FunOK Tryz.prog 200 u7d_ :=
 fnk (c:=ub2p_) (l:=[]) ubv7_ Tryz.func200 trivial
def ubhw_:FSpec:=⟨[.val (.slice .str),.val .bool],[.val .bool],uw9_,true⟩
def ubhx_:List (Nat×FSpec):=[]
theorem ubq6_:FsOK Tryz.prog ubhx_:=trivial
def u1c_:CSpec:=⟨⟨[1,7,8,9],[.val .bool,.val (.slice .str),.val (.int .i64),.val (.int .i64)]⟩,[((.exit 0),⟨[],[]⟩),(.ret,⟨[4],[.val .bool]⟩)],([4,6]++seg 9 18),u3s_,[]⟩
def ub00_:Env:=mkE ubhx_ [(0,u1c_)] [] true
theorem ubar_:EnvOK Tryz.prog true ub00_:=enk ubq6_
def uxz_:Code:=u4_ Tryz.f199
theorem ubnx_:CutOK Tryz.prog true Tryz.f199.ntmps u1c_ (sub uxz_ [1,0,1,0]) :=
 lok (body:=sub uxz_ [1,0,1,0,0]) (n:=1) (l:=[]) ubar_ trivial
theorem ubyb_:um_ Tryz.prog 199∧FunOK Tryz.prog 199 ubhw_ :=
 fnk (c:=uxz_) (l:=[(u1c_,sub uxz_ [1,0,1,0])]) ubar_ Tryz.func199 ⟨⟨by kernel_rfl,ubnx_⟩,trivial⟩
def u4z_:FSpec:=⟨[.val .str],[.val .bool],ur4_,true⟩
def u40_:List (Nat×FSpec):=[(232,u7b_)]
theorem ubfx_:FsOK Tryz.prog u40_:=⟨ubk5_,trivial⟩
def urc_:CSpec:=⟨⟨[0,5,6],[.val .str,.val (.int .i64),.val (.int .i64)]⟩,[((.exit 0),⟨[],[]⟩),(.ret,⟨[2],[.val .bool]⟩)],([2,3]++seg 6 11),uta_,[]⟩
def ubq7_:Env:=mkE u40_ [(0,urc_)] [] true
theorem uzw_:EnvOK Tryz.prog true ubq7_:=enk ubfx_
def uoa_:Code:=u4_ Tryz.f237
theorem ubc8_:CutOK Tryz.prog true Tryz.f237.ntmps urc_ (sub uoa_ [1,0,1,0]) :=
 lok (body:=sub uoa_ [1,0,1,0,0]) (n:=1) (l:=[]) uzw_ trivial
theorem ubny_:um_ Tryz.prog 237∧FunOK Tryz.prog 237 u4z_ :=
 fnk (c:=uoa_) (l:=[(urc_,sub uoa_ [1,0,1,0])]) uzw_ Tryz.func237 ⟨⟨by kernel_rfl,ubc8_⟩,trivial⟩
def uzx_:FSpec:=⟨[.val (.slice ZZ8)],[.val (.int .i64)],uny_,true⟩
def uzy_:List (Nat×FSpec):=[(237,u4z_)]
theorem ubbj_:FsOK Tryz.prog uzy_:=⟨ubny_,trivial⟩
def uob_:CSpec:=⟨⟨[0,5,6,7],[.val (.slice ZZ8),.val (.slice ZZ8),.val (.int .i64),.val (.int .i64)]⟩,[((.exit 0),⟨[],[]⟩),(.ret,⟨[2],[.val (.int .i64)]⟩)],([2,3,4]++seg 7 29),upq_,[]⟩
def ubld_:Env:=mkE uzy_ [(0,uob_)] [] true
theorem uwb_:EnvOK Tryz.prog true ubld_:=enk ubbj_
def uk4_:Code:=u4_ Tryz.f201
theorem u8u_:CutOK Tryz.prog true Tryz.f201.ntmps uob_ (sub uk4_ [1,0,1,0]) :=
 lok (body:=sub uk4_ [1,0,1,0,0]) (n:=1) (l:=[]) uwb_ trivial
theorem ubi1_:um_ Tryz.prog 201∧FunOK Tryz.prog 201 uzx_ :=
 fnk (c:=uk4_) (l:=[(uob_,sub uk4_ [1,0,1,0])]) uwb_ Tryz.func201 ⟨⟨by kernel_rfl,u8u_⟩,trivial⟩
def ubp8_:FSpec:=⟨[.val .str],[.val .bool],u6u_,true⟩
def ubp9_:List (Nat×FSpec):=[]
theorem ubv8_:FsOK Tryz.prog ubp9_:=trivial
def u7e_:CSpec:=⟨⟨[0,5,6],[.val .str,.val (.int .i64),.val (.int .i64)]⟩,[((.exit 0),⟨[],[]⟩),(.ret,⟨[2],[.val .bool]⟩)],([2,3]++seg 6 14),ubbf_,[]⟩
def ub48_:Env:=mkE ubp9_ [(0,u7e_)] [] true
theorem ubhy_:EnvOK Tryz.prog true ub48_:=enk ubv8_
def u53_:Code:=u4_ Tryz.f202
theorem ubts_:CutOK Tryz.prog true Tryz.f202.ntmps u7e_ (sub u53_ [1,0,1,0]) :=
 lok (body:=sub u53_ [1,0,1,0,0]) (n:=1) (l:=[]) ubhy_ trivial
theorem ub2q_:um_ Tryz.prog 202∧FunOK Tryz.prog 202 ubp8_ :=
 fnk (c:=u53_) (l:=[(u7e_,sub u53_ [1,0,1,0])]) ubhy_ Tryz.func202 ⟨⟨by kernel_rfl,ubts_⟩,trivial⟩
def uble_:FSpec:=⟨[.val (.agg ZZ10)],[.val (.int .i64)],ubkm_,true⟩
def ubx2_:List (Nat×FSpec):=[(111,ugy_),(197,ubq5_),(198,ub0w_),(199,ubhw_),(200,u7d_),(201,uzx_),(202,ubp8_)]
theorem ub01_:FsOK Tryz.prog ubx2_:=⟨ujb_,ub0v_,ub8r_,ubyb_,ublc_,ubi1_,ub2q_,trivial⟩
def ubfy_:CSpec:=⟨⟨[75,76,77],[.own 9 .str false,.val (.int .i64),.val (.int .i64)]⟩,[((.exit 1),⟨[],[]⟩),(.ret,⟨[2],[.val (.int .i64)]⟩)],[2,7,77,78,79,80,81,82,83],ubkl_,[]⟩
def ubbk_:CSpec:=⟨⟨[85,86,87],[.val (.slice ZZ8),.val (.int .i64),.val (.int .i64)]⟩,[((.exit 3),⟨[],[]⟩),(.ret,⟨[2],[.val (.int .i64)]⟩)],([2,9]++seg 87 8),ube9_,[]⟩
def ub8s_:Env:=mkE ubx2_ [(7,ubfy_),(10,ubbk_)] [] true
theorem ubbl_:EnvOK Tryz.prog true ub8s_:=enk ub01_
def uvx_:Code:=u4_ Tryz.f148
theorem ubyc_:CutOK Tryz.prog true Tryz.f148.ntmps ubfy_ (sub uvx_ [1,1,1,1,1,0,1,0]) :=
 lok (body:=sub uvx_ [1,1,1,1,1,0,1,0,0]) (n:=8) (l:=[]) ubbl_ trivial
theorem ubv9_:CutOK Tryz.prog true Tryz.f148.ntmps ubbk_ (sub uvx_ [1,1,1,1,1,1,0,1,0]) :=
 lok (body:=sub uvx_ [1,1,1,1,1,1,0,1,0,0]) (n:=11) (l:=[]) ubbl_ trivial
theorem ubx3_:um_ Tryz.prog 148∧FunOK Tryz.prog 148 uble_ :=
 fnk (c:=uvx_) (l:=[(ubfy_,sub uvx_ [1,1,1,1,1,0,1,0]),(ubbk_,sub uvx_ [1,1,1,1,1,1,0,1,0])]) ubbl_ Tryz.func148 ⟨⟨by kernel_rfl,ubyc_⟩,⟨by kernel_rfl,ubv9_⟩,trivial⟩
def ubtt_:FSpec:=⟨[.val (.int .u8)],[.val .bool],ubcw_,true⟩
def ubtu_:List (Nat×FSpec):=[]
theorem ubyd_:FsOK Tryz.prog ubtu_:=trivial
def ub63_:Env:=mkE ubtu_ [] [] true
theorem ub02_:EnvOK Tryz.prog true ub63_:=enk ubyd_
def ub64_:Code:=u4_ Tryz.f238
theorem ub49_:um_ Tryz.prog 238∧FunOK Tryz.prog 238 ubtt_ :=
 fnk (c:=ub64_) (l:=[]) ub02_ Tryz.func238 trivial
def ud6_:FSpec:=⟨[.bld 5 false,.val (.int .u8)],[.any],ubn_,false⟩
def urd_:List (Nat×FSpec):=[(176,ujc_)]
theorem u2k_:FsOK Tryz.prog urd_:=⟨ura_,trivial⟩
def u8v_:Env:=mkE urd_ [] [] false
theorem u3z_:EnvOK Tryz.prog false u8v_:=enk u2k_
def u8w_:Code:=u4_ Tryz.f121
theorem uf8_:um_ Tryz.prog 121∧FunOK Tryz.prog 121 ud6_ :=
 fnk (c:=u8w_) (l:=[]) u3z_ Tryz.func121 trivial
def ubtv_:FSpec:=⟨[.val .str],[.val .str],ubnj_,false⟩
def ubtw_:List (Nat×FSpec):=[(121,ud6_),(122,ub5_),(238,ubtt_)]
theorem ubye_:FsOK Tryz.prog ubtw_:=⟨uf8_,uco_,ub49_,trivial⟩
def ubbm_:CSpec:=⟨⟨[0,3,6,7],[.val .str,.bld 5 false,.val (.int .i64),.val (.int .i64)]⟩,[((.exit 0),⟨[3],[.bld 5 false]⟩)],([4]++seg 7 26),ubfa_,[]⟩
def ub65_:Env:=mkE ubtw_ [(0,ubbm_)] [] false
theorem ublf_:EnvOK Tryz.prog false ub65_:=enk ubye_
def ubas_:Code:=u4_ Tryz.f204
theorem ubwa_:CutOK Tryz.prog false Tryz.f204.ntmps ubbm_ (sub ubas_ [1,1,0,1,0]) :=
 lok (body:=sub ubas_ [1,1,0,1,0,0]) (n:=1) (l:=[]) ublf_ trivial
theorem ub5a_:um_ Tryz.prog 204∧FunOK Tryz.prog 204 ubtv_ :=
 fnk (c:=ubas_) (l:=[(ubbm_,sub ubas_ [1,1,0,1,0])]) ublf_ Tryz.func204 ⟨⟨by kernel_rfl,ubwa_⟩,trivial⟩
def u30_:FSpec:=⟨[.val (.agg ZZ10)],[.val (.agg ZZ10)],uxa_,false⟩
def ubhz_:List (Nat×FSpec):=[(197,ubq5_),(203,ubkx_),(204,ubtv_)]
theorem ubq8_:FsOK Tryz.prog ubhz_:=⟨ub0v_,ubxx_,ub5a_,trivial⟩
def u1d_:CSpec:=⟨⟨[1,12],[.box (.val ZZ10),.val .bool]⟩,[(.normal,⟨[1],[.box (.val ZZ10)]⟩)],[13,14,15,16,17,18,19,20],uu0_,[]⟩
def ub03_:Env:=mkE ubhz_ [(0,u1d_)] [] false
theorem ubat_:EnvOK Tryz.prog false ub03_:=enk ubq8_
def umw_:Code:=u4_ Tryz.f149
theorem ubnz_:CutOK Tryz.prog false Tryz.f149.ntmps u1d_ (sub umw_ [1,1,0,1]) :=
 brk (c:=uqv_ (sub umw_ [1,1,0,1])) (x:=sub umw_ [1,1,0,1,0]) (y:=sub umw_ [1,1,0,1,1]) (n:=0) (lx:=[]) (ly:=[]) ubat_ trivial trivial
theorem ubh0_:um_ Tryz.prog 149∧FunOK Tryz.prog 149 u30_ :=
 fnk (c:=umw_) (l:=[(u1d_,sub umw_ [1,1,0,1])]) ubat_ Tryz.func149 ⟨⟨by kernel_rfl,ubnz_⟩,trivial⟩
def ub04_:FSpec:=⟨[.val .str],[.val (.agg ZZ10),.val (.int .i64),.val (.int .i64)],ubzq_,false⟩
def ub05_:List (Nat×FSpec):=[(145,uban_),(146,ulu_),(147,ubp5_),(148,uble_),(149,u30_)]
theorem ub2r_:FsOK Tryz.prog ub05_:=⟨ubtp_,uze_,ub2k_,ubx3_,ubh0_,trivial⟩
def ublg_:CSpec:=⟨⟨[2,6,7],[.box (.val ZZ10),.box (.pr (.val .str) (.pr (.val .str) (.pr (.val .str) (.pr (.val .str) (.pr (.own 234 ZZ8 true) (.val .str)))))),.val (.int .i64)]⟩,[((.exit 0),⟨[2,6],[.box (.val ZZ10),.box (.pr (.val .str) (.pr (.val .str) (.pr (.val .str) (.pr (.val .str) (.pr (.own 234 ZZ8 true) (.val .str))))))]⟩),(.ret,⟨[2,3,4],[.box (.val ZZ10),.val (.int .i64),.val (.int .i64)]⟩)],([3,4,7]++seg 31 22),ubqv_,[]⟩
def uca6_:Env:=mkE ub05_ [(2,ublg_)] [] false
theorem ubtx_:EnvOK Tryz.prog false uca6_:=enk ub2r_
def ubnl_:Code:=u4_ Tryz.f95
theorem ub06_:CutOK Tryz.prog false Tryz.f95.ntmps ublg_ (sub ubnl_ [1,1,1,1,1,1,0,1,0]) :=
 lok (body:=sub ubnl_ [1,1,1,1,1,1,0,1,0,0]) (n:=3) (l:=[]) ubtx_ trivial
theorem ub8t_:um_ Tryz.prog 95∧FunOK Tryz.prog 95 ub04_ :=
 fnk (c:=ubnl_) (l:=[(ublg_,sub ubnl_ [1,1,1,1,1,1,0,1,0])]) ubtx_ Tryz.func95 ⟨⟨by kernel_rfl,ub06_⟩,trivial⟩
def ucb_:FSpec:=⟨[.bld 5 false,.val .str],[.val (.int .i64),.any],ubs_,false⟩
def uo7_:List (Nat×FSpec):=[(176,ujc_)]
theorem uzf_:FsOK Tryz.prog uo7_:=⟨ura_,trivial⟩
def u54_:Env:=mkE uo7_ [] [] false
theorem u1e_:EnvOK Tryz.prog false u54_:=enk uzf_
def u55_:Code:=u4_ Tryz.f120
theorem uc5_:um_ Tryz.prog 120∧FunOK Tryz.prog 120 ucb_ :=
 fnk (c:=u55_) (l:=[]) u1e_ Tryz.func120 trivial
def ubbn_:FSpec:=⟨[.val .str],[.val .str],u0s_,false⟩
def ubqa_:List (Nat×FSpec):=[(111,ugy_),(120,ucb_),(121,ud6_),(122,ub5_),(230,u66_)]
theorem ubwb_:FsOK Tryz.prog ubqa_:=⟨ujb_,uc5_,uf8_,uco_,ubk1_,trivial⟩
def u7f_:CSpec:=⟨⟨[0,3,7,8],[.val .str,.bld 5 false,.val (.int .i64),.val (.int .i64)]⟩,[((.exit 0),⟨[3],[.bld 5 false]⟩)],([4,5]++seg 8 39),ubbg_,[]⟩
def ub5b_:Env:=mkE ubqa_ [(0,u7f_)] [] false
theorem ubh1_:EnvOK Tryz.prog false ub5b_:=enk ubwb_
def u56_:Code:=u4_ Tryz.f206
theorem ubty_:CutOK Tryz.prog false Tryz.f206.ntmps u7f_ (sub u56_ [1,1,0,1,0]) :=
 lok (body:=sub u56_ [1,1,0,1,0,0]) (n:=1) (l:=[]) ubh1_ trivial
theorem ubqb_:um_ Tryz.prog 206∧FunOK Tryz.prog 206 ubbn_ :=
 fnk (c:=u56_) (l:=[(u7f_,sub u56_ [1,1,0,1,0])]) ubh1_ Tryz.func206 ⟨⟨by kernel_rfl,ubty_⟩,trivial⟩
def ub07_:FSpec:=⟨[.val .str],[.val .str],ubzr_,false⟩
def ub08_:List (Nat×FSpec):=[(191,upo_),(200,u7d_),(206,ubbn_)]
theorem ub2s_:FsOK Tryz.prog ub08_:=⟨uuj_,ublc_,ubqb_,trivial⟩
def ublh_:CSpec:=⟨⟨[3,7,8,9],[.own 9 .str false,.val (.slice .str),.val (.int .i64),.val (.int .i64)]⟩,[((.exit 0),⟨[3],[.own 9 .str false]⟩)],([3,5]++seg 9 10),ubqw_,[]⟩
def uca7_:Env:=mkE ub08_ [(0,ublh_)] [] false
theorem ubtz_:EnvOK Tryz.prog false uca7_:=enk ub2s_
def ubnm_:Code:=u4_ Tryz.f205
theorem ub09_:CutOK Tryz.prog false Tryz.f205.ntmps ublh_ (sub ubnm_ [1,1,0,1,0]) :=
 lok (body:=sub ubnm_ [1,1,0,1,0,0]) (n:=1) (l:=[]) ubtz_ trivial
theorem ub8u_:um_ Tryz.prog 205∧FunOK Tryz.prog 205 ub07_ :=
 fnk (c:=ubnm_) (l:=[(ublh_,sub ubnm_ [1,1,0,1,0])]) ubtz_ Tryz.func205 ⟨⟨by kernel_rfl,ub09_⟩,trivial⟩
def ubqc_:FSpec:=⟨[.val (.agg ZZ10)],[.val .str],ubfb_,false⟩
def ubqd_:List (Nat×FSpec):=[(205,ub07_),(206,ubbn_)]
theorem ubwc_:FsOK Tryz.prog ubqd_:=⟨ub8u_,ubqb_,trivial⟩
def ub5c_:Env:=mkE ubqd_ [] [] false
theorem ubyf_:EnvOK Tryz.prog false ub5c_:=enk ubwc_
def ub5d_:Code:=u4_ Tryz.f150
theorem ub2t_:um_ Tryz.prog 150∧FunOK Tryz.prog 150 ubqc_ :=
 fnk (c:=ub5d_) (l:=[]) ubyf_ Tryz.func150 trivial
def ub3w_:FSpec:=⟨[.val (.agg ZZ10)],[.val .str,.val (.int .i64)],ub42_,false⟩
def ub3x_:List (Nat×FSpec):=[(148,uble_),(149,u30_),(150,ubqc_)]
theorem ub5e_:FsOK Tryz.prog ub3x_:=⟨ubx3_,ubh0_,ub2t_,trivial⟩
def ucdm_:Env:=mkE ub3x_ [] [] false
theorem ub66_:EnvOK Tryz.prog false ucdm_:=enk ub5e_
def ucdn_:Code:=u4_ Tryz.f96
theorem uca8_:um_ Tryz.prog 96∧FunOK Tryz.prog 96 ub3w_ :=
 fnk (c:=ucdn_) (l:=[]) ub66_ Tryz.func96 trivial
def ubh2_:FSpec:=⟨[.val .str],[.val .bool],u5z_,false⟩
def ubh3_:List (Nat×FSpec):=[(95,ub04_),(96,ub3w_)]
theorem ubq9_:FsOK Tryz.prog ubh3_:=⟨ub8t_,uca8_,trivial⟩
def ub1a_:Env:=mkE ubh3_ [] [] false
theorem ubt0_:EnvOK Tryz.prog false ub1a_:=enk ubq9_
def ub1b_:Code:=u4_ Tryz.f50
theorem ubyg_:um_ Tryz.prog 50∧FunOK Tryz.prog 50 ubh2_ :=
 fnk (c:=ub1b_) (l:=[]) ubt0_ Tryz.func50 trivial
def udv_:FSpec:=⟨[.val .str,.val (.int .i64),.hof false (.int .u8) .bool],[.val (.int .i64)],udk_,false⟩
def ubt1_:List (Nat×FSpec):=[]
theorem ubyh_:FsOK Tryz.prog ubt1_:=trivial
def ubbo_:CSpec:=⟨⟨[0,1,2,7],[.val .str,.val (.int .i64),.hof false (.int .u8) .bool,.val (.int .i64)]⟩,[((.exit 0),⟨[7],[.val (.int .i64)]⟩)],(seg 7 18),ubfc_,[]⟩
def ub67_:Env:=mkE ubt1_ [(0,ubbo_)] [] false
theorem ubli_:EnvOK Tryz.prog false ub67_:=enk ubyh_
def ubau_:Code:=u4_ Tryz.f104
theorem ubwd_:CutOK Tryz.prog false Tryz.f104.ntmps ubbo_ (sub ubau_ [1,1,0,0]) :=
 lok (body:=sub ubau_ [1,1,0,0,0]) (n:=1) (l:=[]) ubli_ trivial
theorem uej_:um_ Tryz.prog 104∧FunOK Tryz.prog 104 udv_ :=
 fnk (c:=ubau_) (l:=[(ubbo_,sub ubau_ [1,1,0,0])]) ubli_ Tryz.func104 ⟨⟨by kernel_rfl,ubwd_⟩,trivial⟩
def ubf_:FSpec:=⟨[.val (.int .u8)],[.val .bool],u9_,true⟩
def ubc9_:List (Nat×FSpec):=[]
theorem ubn0_:FsOK Tryz.prog ubc9_:=trivial
def ubyi_:Env:=mkE ubc9_ [] [] true
theorem ubra_:EnvOK Tryz.prog true ubyi_:=enk ubn0_
def ubyj_:Code:=u4_ Tryz.f105
theorem ubj_:um_ Tryz.prog 105∧FunOK Tryz.prog 105 ubf_ :=
 fnk (c:=ubyj_) (l:=[]) ubra_ Tryz.func105 trivial
def ucl_:FSpec:=⟨[.val .str],[.val (.int .i64),.val .bool],uc0_,false⟩
def ubh4_:List (Nat×FSpec):=[(104,udv_),(105,ubf_),(163,ubp3_)]
theorem ubrb_:FsOK Tryz.prog ubh4_:=⟨uej_,ubj_,strconv_Atoi_ok,trivial⟩
def ub1c_:Env:=mkE ubh4_ [] [] false
theorem ubt2_:EnvOK Tryz.prog false ub1c_:=enk ubrb_
def ub1d_:Code:=u4_ Tryz.f103
theorem uc6_:um_ Tryz.prog 103∧FunOK Tryz.prog 103 ucl_ :=
 fnk (c:=ub1d_) (l:=[]) ubt2_ Tryz.func103 trivial
def uhi_:FSpec:=⟨[.val .str],[.val (.int .i64),.val .bool],uf2_,false⟩
def u2l_:List (Nat×FSpec):=[(103,ucl_)]
theorem ubda_:FsOK Tryz.prog u2l_:=⟨uc6_,trivial⟩
def ubn1_:Env:=mkE u2l_ [] [] false
theorem ubfz_:EnvOK Tryz.prog false ubn1_:=enk ubda_
def ubn2_:Code:=u4_ Tryz.f106
theorem uk5_:um_ Tryz.prog 106∧FunOK Tryz.prog 106 uhi_ :=
 fnk (c:=ubn2_) (l:=[]) ubfz_ Tryz.func106 trivial
def uf9_:FSpec:=⟨[.val (.int .u8)],[.val .bool],uf3_,true⟩
def ubav_:List (Nat×FSpec):=[]
theorem ublj_:FsOK Tryz.prog ubav_:=trivial
def ubwe_:Env:=mkE ubav_ [] [] true
theorem ubn3_:EnvOK Tryz.prog true ubwe_:=enk ublj_
def ubwf_:Code:=u4_ Tryz.f110
theorem uh8_:um_ Tryz.prog 110∧FunOK Tryz.prog 110 uf9_ :=
 fnk (c:=ubwf_) (l:=[]) ubn3_ Tryz.func110 trivial
def uwc_:FSpec:=⟨[.val (.int .u8)],[.val .bool],ukk_,true⟩
def uwd_:List (Nat×FSpec):=[(105,ubf_),(110,uf9_)]
theorem u7g_:FsOK Tryz.prog uwd_:=⟨ubj_,uh8_,trivial⟩
def ubf0_:Env:=mkE uwd_ [] [] true
theorem u8x_:EnvOK Tryz.prog true ubf0_:=enk u7g_
def ubf1_:Code:=u4_ Tryz.f217
theorem ubdb_:um_ Tryz.prog 217∧FunOK Tryz.prog 217 uwc_ :=
 fnk (c:=ubf1_) (l:=[]) u8x_ Tryz.func217 trivial
def ure_:FSpec:=⟨[.val .str],[.val (.slice .str),.val .bool],ukl_,false⟩
def u2m_:List (Nat×FSpec):=[(104,udv_),(216,u63_),(217,uwc_)]
theorem ubdc_:FsOK Tryz.prog u2m_:=⟨uej_,ubkt_,ubdb_,trivial⟩
def upv_:CSpec:=⟨⟨[9,10,11],[.val (.slice .str),.val (.int .i64),.val (.int .i64)]⟩,[((.exit 0),⟨[],[]⟩),(.ret,⟨[2,3],[.val (.slice .str),.val .bool]⟩)],([2,3,6]++seg 11 14),uq1_,[]⟩
def ubn4_:Env:=mkE u2m_ [(0,upv_)] [] false
theorem ux0_:EnvOK Tryz.prog false ubn4_:=enk ubdc_
def ul6_:Code:=u4_ Tryz.f164
theorem ubbp_:CutOK Tryz.prog false Tryz.f164.ntmps upv_ (sub ul6_ [1,1,0,1,0]) :=
 lok (body:=sub ul6_ [1,1,0,1,0,0]) (n:=1) (l:=[]) ux0_ trivial
theorem u2n_:um_ Tryz.prog 164∧FunOK Tryz.prog 164 ure_ :=
 fnk (c:=ul6_) (l:=[(upv_,sub ul6_ [1,1,0,1,0])]) ux0_ Tryz.func164 ⟨⟨by kernel_rfl,ubbp_⟩,trivial⟩
def ubaw_:FSpec:=⟨[.val .str],[.val (.slice .str),.val .bool],uxc_,false⟩
def ubax_:List (Nat×FSpec):=[(104,udv_),(105,ubf_),(106,uhi_),(164,ure_)]
theorem ublk_:FsOK Tryz.prog ubax_:=⟨uej_,ubj_,uk5_,u2n_,trivial⟩
def uvy_:CSpec:=⟨⟨[15,16,17],[.val (.slice .str),.val (.int .i64),.val (.int .i64)]⟩,[((.exit 0),⟨[],[]⟩),(.ret,⟨[2,3],[.val (.slice .str),.val .bool]⟩)],([2,3,7,8,9]++seg 17 17),uxb_,[]⟩
def ubwg_:Env:=mkE ubax_ [(0,uvy_)] [] false
theorem u41_:EnvOK Tryz.prog false ubwg_:=enk ublk_
def usi_:Code:=u4_ Tryz.f165
theorem ubi2_:CutOK Tryz.prog false Tryz.f165.ntmps uvy_ (sub usi_ [1,1,0,1,0]) :=
 lok (body:=sub usi_ [1,1,0,1,0,0]) (n:=1) (l:=[]) u41_ trivial
theorem ubt3_:um_ Tryz.prog 165∧FunOK Tryz.prog 165 ubaw_ :=
 fnk (c:=usi_) (l:=[(uvy_,sub usi_ [1,1,0,1,0])]) u41_ Tryz.func165 ⟨⟨by kernel_rfl,ubi2_⟩,trivial⟩
def ubqe_:FSpec:=⟨[.val .str],[.val (.slice .str),.val .bool],ubfd_,false⟩
def ubqf_:List (Nat×FSpec):=[(108,ubfk_),(164,ure_),(165,ubaw_)]
theorem ubwh_:FsOK Tryz.prog ubqf_:=⟨ubth_,u2n_,ubt3_,trivial⟩
def ub5f_:Env:=mkE ubqf_ [] [] false
theorem ubyk_:EnvOK Tryz.prog false ub5f_:=enk ubwh_
def ub5g_:Code:=u4_ Tryz.f107
theorem ub2u_:um_ Tryz.prog 107∧FunOK Tryz.prog 107 ubqe_ :=
 fnk (c:=ub5g_) (l:=[]) ubyk_ Tryz.func107 trivial
def u42_:FSpec:=⟨[.val .str],[.val ZZ2,.val .bool],ur5_,false⟩
def u43_:List (Nat×FSpec):=[(104,udv_),(105,ubf_),(106,uhi_),(107,ubqe_)]
theorem ubf2_:FsOK Tryz.prog u43_:=⟨uej_,ubj_,uk5_,ub2u_,trivial⟩
def urf_:CSpec:=⟨⟨[0,5,16],[.val .str,.val (.int .i64),.val .bool]⟩,[(.normal,⟨[5],[.val (.int .i64)]⟩),(.ret,⟨[2,3],[.val ZZ2,.val .bool]⟩)],([2,3,5]++seg 17 12),uly_,[]⟩
def urg_:CSpec:=⟨⟨[0,4,5,12],[.val .str,.box (.pr (.val (.arr 3 (.int .i64))) (.own 9 .str false)),.val (.int .i64),.val (.int .i64)]⟩,[((.exit 0),⟨[4,5],[.box (.pr (.val (.arr 3 (.int .i64))) (.own 9 .str false)),.val (.int .i64)]⟩),(.ret,⟨[2,3],[.val ZZ2,.val .bool]⟩)],([2,3,5,6,7,8,9]++seg 12 40),utb_,[]⟩
def ubrc_:Env:=mkE u43_ [(2,urf_),(0,urg_)] [] false
theorem upw_:EnvOK Tryz.prog false ubrc_:=enk ubf2_
def uc3_:Code:=u4_ Tryz.f63
theorem ubdd_:CutOK Tryz.prog false Tryz.f63.ntmps urf_ (sub uc3_ [1,1,1,0,1,0,0,1,1,0,0,1,0,1]) :=
 brk (c:=uqv_ (sub uc3_ [1,1,1,0,1,0,0,1,1,0,0,1,0,1])) (x:=sub uc3_ [1,1,1,0,1,0,0,1,1,0,0,1,0,1,0]) (y:=sub uc3_ [1,1,1,0,1,0,0,1,1,0,0,1,0,1,1]) (n:=2) (lx:=[]) (ly:=[]) upw_ trivial trivial
theorem ubde_:CutOK Tryz.prog false Tryz.f63.ntmps urg_ (sub uc3_ [1,1,1,0,1,0]) :=
 lok (body:=sub uc3_ [1,1,1,0,1,0,0]) (n:=1) (l:=[(urf_,sub uc3_ [1,1,1,0,1,0,0,1,1,0,0,1,0,1])]) upw_ ⟨⟨by kernel_rfl,ubdd_⟩,trivial⟩
theorem ubn5_:um_ Tryz.prog 63∧FunOK Tryz.prog 63 u42_ :=
 fnk (c:=uc3_) (l:=[(urg_,sub uc3_ [1,1,1,0,1,0])]) upw_ Tryz.func63 ⟨⟨by kernel_rfl,ubde_⟩,trivial⟩
def uwe_:FSpec:=⟨[.val (.int .u8)],[.val .bool],ukm_,true⟩
def uwf_:List (Nat×FSpec):=[(105,ubf_),(110,uf9_),(111,ugy_)]
theorem u7h_:FsOK Tryz.prog uwf_:=⟨ubj_,uh8_,ujb_,trivial⟩
def ubf3_:Env:=mkE uwf_ [] [] true
theorem u8y_:EnvOK Tryz.prog true ubf3_:=enk u7h_
def ubf4_:Code:=u4_ Tryz.f109
theorem ubdf_:um_ Tryz.prog 109∧FunOK Tryz.prog 109 uwe_ :=
 fnk (c:=ubf4_) (l:=[]) u8y_ Tryz.func109 trivial
def u7i_:FSpec:=⟨[.val .str],[.val .bool],uu1_,false⟩
def u7j_:List (Nat×FSpec):=[(104,udv_),(105,ubf_)]
theorem ubi3_:FsOK Tryz.prog u7j_:=⟨uej_,ubj_,trivial⟩
def utn_:CSpec:=⟨⟨[0,3],[.val .str,.val (.int .i64)]⟩,[((.exit 0),⟨[],[]⟩),(.ret,⟨[2],[.val .bool]⟩)],(seg 2 16),uvg_,[]⟩
def ubt4_:Env:=mkE u7j_ [(0,utn_)] [] false
theorem u2o_:EnvOK Tryz.prog false ubt4_:=enk ubi3_
def uqo_:Code:=u4_ Tryz.f112
theorem ubf5_:CutOK Tryz.prog false Tryz.f112.ntmps utn_ (sub uqo_ [1,0,1,0]) :=
 lok (body:=sub uqo_ [1,0,1,0,0]) (n:=1) (l:=[]) u2o_ trivial
theorem ubrd_:um_ Tryz.prog 112∧FunOK Tryz.prog 112 u7i_ :=
 fnk (c:=uqo_) (l:=[(utn_,sub uqo_ [1,0,1,0])]) u2o_ Tryz.func112 ⟨⟨by kernel_rfl,ubf5_⟩,trivial⟩
def u2p_:FSpec:=⟨[.val .str],[.val ZZ2,.val .bool],uqg_,false⟩
def u2q_:List (Nat×FSpec):=[(104,udv_),(105,ubf_),(106,uhi_),(108,ubfk_),(109,uwe_),(111,ugy_),(112,u7i_),(113,uxo_)]
theorem ubdg_:FsOK Tryz.prog u2q_:=⟨uej_,ubj_,uk5_,ubth_,ubdf_,ujb_,ubrd_,ubfj_,trivial⟩
def upx_:CSpec:=⟨⟨[0,4,5,6,18],[.val .str,.box (.val ZZ17),.val .str,.val .str,.val .bool]⟩,[(.normal,⟨[0,4],[.val .str,.box (.val ZZ17)]⟩),(.ret,⟨[2,3],[.val ZZ2,.val .bool]⟩)],([0,2,3,8,9]++seg 19 10),ukn_,[]⟩
def ubn6_:Env:=mkE u2q_ [(0,upx_)] [] false
theorem ux1_:EnvOK Tryz.prog false ubn6_:=enk ubdg_
def uge_:Code:=u4_ Tryz.f64
theorem ubbq_:CutOK Tryz.prog false Tryz.f64.ntmps upx_ (sub uge_ [1,1,0,1,1]) :=
 brk (c:=uqv_ (sub uge_ [1,1,0,1,1])) (x:=sub uge_ [1,1,0,1,1,0]) (y:=sub uge_ [1,1,0,1,1,1]) (n:=0) (lx:=[]) (ly:=[]) ux1_ trivial trivial
theorem ubll_:um_ Tryz.prog 64∧FunOK Tryz.prog 64 u2p_ :=
 fnk (c:=uge_) (l:=[(upx_,sub uge_ [1,1,0,1,1])]) ux1_ Tryz.func64 ⟨⟨by kernel_rfl,ubbq_⟩,trivial⟩
def u7k_:FSpec:=⟨[.val .str],[.val ZZ12,.val .str,.val .bool],uu2_,false⟩
def u7l_:List (Nat×FSpec):=[(103,ucl_),(104,udv_),(105,ubf_)]
theorem ubi4_:FsOK Tryz.prog u7l_:=⟨uc6_,uej_,ubj_,trivial⟩
def uto_:CSpec:=⟨⟨[0,5],[.val .str,.own 3 (.int .i64) false]⟩,[(.ret,⟨[2,3,4],[.val ZZ12,.val .str,.val .bool]⟩)],([0]++seg 2 43),uvh_,[]⟩
def ubt5_:Env:=mkE u7l_ [(0,uto_)] [] false
theorem u2r_:EnvOK Tryz.prog false ubt5_:=enk ubi4_
def uqp_:Code:=u4_ Tryz.f115
theorem ubf6_:CutOK Tryz.prog false Tryz.f115.ntmps uto_ (sub uqp_ [1,1,0]) :=
 lok (body:=sub uqp_ [1,1,0,0]) (n:=1) (l:=[]) u2r_ trivial
theorem ubre_:um_ Tryz.prog 115∧FunOK Tryz.prog 115 u7k_ :=
 fnk (c:=uqp_) (l:=[(uto_,sub uqp_ [1,1,0])]) u2r_ Tryz.func115 ⟨⟨by kernel_rfl,ubf6_⟩,trivial⟩
def ubh5_:FSpec:=⟨[.val (.int .u8)],[.val .bool],ubfe_,true⟩
def ubh6_:List (Nat×FSpec):=[]
theorem ubrf_:FsOK Tryz.prog ubh6_:=trivial
def ub1e_:Env:=mkE ubh6_ [] [] true
theorem ubt6_:EnvOK Tryz.prog true ub1e_:=enk ubrf_
def ub1f_:Code:=u4_ Tryz.f221
theorem ubyl_:um_ Tryz.prog 221∧FunOK Tryz.prog 221 ubh5_ :=
 fnk (c:=ub1f_) (l:=[]) ubt6_ Tryz.func221 trivial
def ubh7_:FSpec:=⟨[.val .str,.hof false (.int .u8) .bool],[.val (.int .i64)],uxd_,false⟩
def ubh8_:List (Nat×FSpec):=[(221,ubh5_)]
theorem ubrg_:FsOK Tryz.prog ubh8_:=⟨ubyl_,trivial⟩
def ub1g_:Env:=mkE ubh8_ [] [] false
theorem ubt7_:EnvOK Tryz.prog false ub1g_:=enk ubrg_
def ub1h_:Code:=u4_ Tryz.f170
theorem ubym_:um_ Tryz.prog 170∧FunOK Tryz.prog 170 ubh7_ :=
 fnk (c:=ub1h_) (l:=[]) ubt7_ Tryz.func170 trivial
def u7m_:FSpec:=⟨[.val .str],[.val .str,.val (.int .i64),.val (.int .i64)],uu3_,true⟩
def u7n_:List (Nat×FSpec):=[(222,u61_)]
theorem ubi5_:FsOK Tryz.prog u7n_:=⟨ubqx_,trivial⟩
def utp_:CSpec:=⟨⟨[0,2,7,8,9],[.val .str,.val .str,.own 9 .str false,.val (.int .i64),.val (.int .i64)]⟩,[((.exit 0),⟨[2],[.val .str]⟩)],([2,6]++seg 9 9),uvi_,[]⟩
def utq_:CSpec:=⟨⟨[18,21],[.val .str,.val .bool]⟩,[(.normal,⟨[21],[.val .bool]⟩)],[21,23],unz_,[]⟩
def utr_:CSpec:=⟨⟨[18,25],[.val .str,.val .bool]⟩,[(.normal,⟨[25],[.val .bool]⟩)],[25,27],un0_,[]⟩
def uts_:CSpec:=⟨⟨[18,29],[.val .str,.val .bool]⟩,[(.normal,⟨[29],[.val .bool]⟩)],[29,31,32,33],un1_,[]⟩
def ubt8_:Env:=mkE u7n_ [(0,utp_),(4,utq_),(6,utr_),(8,uts_)] [] true
theorem uhj_:EnvOK Tryz.prog true ubt8_:=enk ubi5_
def uba_:Code:=u4_ Tryz.f171
theorem ubf7_:CutOK Tryz.prog true Tryz.f171.ntmps utp_ (sub uba_ [1,0,1,0]) :=
 lok (body:=sub uba_ [1,0,1,0,0]) (n:=1) (l:=[]) uhj_ trivial
theorem ubf8_:CutOK Tryz.prog true Tryz.f171.ntmps utq_ (sub uba_ [1,1,0,1,0,1,1,0,1]) :=
 brk (c:=uqv_ (sub uba_ [1,1,0,1,0,1,1,0,1])) (x:=sub uba_ [1,1,0,1,0,1,1,0,1,0]) (y:=sub uba_ [1,1,0,1,0,1,1,0,1,1]) (n:=4) (lx:=[]) (ly:=[]) uhj_ trivial trivial
theorem ubf9_:CutOK Tryz.prog true Tryz.f171.ntmps utr_ (sub uba_ [1,1,0,1,0,1,1,1,1,0,1]) :=
 brk (c:=uqv_ (sub uba_ [1,1,0,1,0,1,1,1,1,0,1])) (x:=sub uba_ [1,1,0,1,0,1,1,1,1,0,1,0]) (y:=sub uba_ [1,1,0,1,0,1,1,1,1,0,1,1]) (n:=6) (lx:=[]) (ly:=[]) uhj_ trivial trivial
theorem ubga_:CutOK Tryz.prog true Tryz.f171.ntmps uts_ (sub uba_ [1,1,0,1,0,1,1,1,1,1,1,0,1]) :=
 brk (c:=uqv_ (sub uba_ [1,1,0,1,0,1,1,1,1,1,1,0,1])) (x:=sub uba_ [1,1,0,1,0,1,1,1,1,1,1,0,1,0]) (y:=sub uba_ [1,1,0,1,0,1,1,1,1,1,1,0,1,1]) (n:=8) (lx:=[]) (ly:=[]) uhj_ trivial trivial
theorem ubrh_:um_ Tryz.prog 171∧FunOK Tryz.prog 171 u7m_ :=
 fnk (c:=uba_) (l:=[(utp_,sub uba_ [1,0,1,0]),(utq_,sub uba_ [1,1,0,1,0,1,1,0,1]),(utr_,sub uba_ [1,1,0,1,0,1,1,1,1,0,1]),(uts_,sub uba_ [1,1,0,1,0,1,1,1,1,1,1,0,1])]) uhj_ Tryz.func171 ⟨⟨by kernel_rfl,ubf7_⟩,⟨by kernel_rfl,ubf8_⟩,⟨by kernel_rfl,ubf9_⟩,⟨by kernel_rfl,ubga_⟩,trivial⟩
def uzz_:FSpec:=⟨[.box (.val ZZ6),.val .str],[.val .str,.val .bool],un2_,false⟩
def uz0_:List (Nat×FSpec):=[(103,ucl_),(104,udv_),(105,ubf_),(110,uf9_),(170,ubh7_),(171,u7m_)]
theorem ubbr_:FsOK Tryz.prog uz0_:=⟨uc6_,uej_,ubj_,uh8_,ubym_,ubrh_,trivial⟩
def uoc_:CSpec:=⟨⟨[7,11,12,49],[.val .str,.val (.int .i64),.val (.int .i64),.val .bool]⟩,[(.normal,⟨[7,11],[.val .str,.val (.int .i64)]⟩),(.ret,⟨[4,5],[.val .str,.val .bool]⟩)],([4,5,7,11,13,14,15]++seg 50 21),uji_,[]⟩
def uod_:CSpec:=⟨⟨[0,1,6],[.box (.val ZZ6),.val .str,.val (.int .i64)]⟩,[(.ret,⟨[0,4,5],[.box (.val ZZ6),.val .str,.val .bool]⟩)],([1]++seg 4 91),upr_,[]⟩
def ublm_:Env:=mkE uz0_ [(3,uoc_),(0,uod_)] [] false
theorem umx_:EnvOK Tryz.prog false ublm_:=enk ubbr_
def uce_:Code:=u4_ Tryz.f116
theorem u8z_:CutOK Tryz.prog false Tryz.f116.ntmps uoc_ (sub uce_ [1,1,0,0,0,1,1,1,1,1,1,0,1,1]) :=
 brk (c:=uqv_ (sub uce_ [1,1,0,0,0,1,1,1,1,1,1,0,1,1])) (x:=sub uce_ [1,1,0,0,0,1,1,1,1,1,1,0,1,1,0]) (y:=sub uce_ [1,1,0,0,0,1,1,1,1,1,1,0,1,1,1]) (n:=3) (lx:=[]) (ly:=[]) umx_ trivial trivial
theorem u80_:CutOK Tryz.prog false Tryz.f116.ntmps uod_ (sub uce_ [1,1,0]) :=
 lok (body:=sub uce_ [1,1,0,0]) (n:=1) (l:=[(uoc_,sub uce_ [1,1,0,0,0,1,1,1,1,1,1,0,1,1])]) umx_ ⟨⟨by kernel_rfl,u8z_⟩,trivial⟩
theorem ubi6_:um_ Tryz.prog 116∧FunOK Tryz.prog 116 uzz_ :=
 fnk (c:=uce_) (l:=[(uod_,sub uce_ [1,1,0])]) umx_ Tryz.func116 ⟨⟨by kernel_rfl,u80_⟩,trivial⟩
def u44_:FSpec:=⟨[.val (.int .i32)],[.val .bool],u0t_,true⟩
def u45_:List (Nat×FSpec):=[]
theorem ubgb_:FsOK Tryz.prog u45_:=trivial
def ubri_:Env:=mkE u45_ [] [] true
theorem ubi7_:EnvOK Tryz.prog true ubri_:=enk ubgb_
def ubrj_:Code:=u4_ Tryz.f174
theorem ubn7_:um_ Tryz.prog 174∧FunOK Tryz.prog 174 u44_ :=
 fnk (c:=ubrj_) (l:=[]) ubi7_ Tryz.func174 trivial
def u46_:FSpec:=⟨[.val (.int .u8)],[.val .bool],ur6_,true⟩
def u47_:List (Nat×FSpec):=[(105,ubf_),(110,uf9_)]
theorem ubgc_:FsOK Tryz.prog u47_:=⟨ubj_,uh8_,trivial⟩
def ubrk_:Env:=mkE u47_ [] [] true
theorem ubi8_:EnvOK Tryz.prog true ubrk_:=enk ubgc_
def ubrl_:Code:=u4_ Tryz.f175
theorem ubn8_:um_ Tryz.prog 175∧FunOK Tryz.prog 175 u46_ :=
 fnk (c:=ubrl_) (l:=[]) ubi8_ Tryz.func175 trivial
def ubdh_:FSpec:=⟨[.val .str],[.val (.slice .str),.val .bool],u1s_,false⟩
def ubdi_:List (Nat×FSpec):=[(104,udv_),(105,ubf_),(173,u4v_),(174,u44_),(175,u46_)]
theorem ubn9_:FsOK Tryz.prog ubdi_:=⟨uej_,ubj_,ubnq_,ubn7_,ubn8_,trivial⟩
def ux2_:CSpec:=⟨⟨[5,13,14,15],[.val (.int .i64),.val (.slice .str),.val (.int .i64),.val (.int .i64)]⟩,[((.exit 0),⟨[5],[.val (.int .i64)]⟩),(.ret,⟨[2,3],[.val (.slice .str),.val .bool]⟩)],([2,3,5,7,8]++seg 15 26),u0u_,[]⟩
def ubyn_:Env:=mkE ubdi_ [(0,ux2_)] [] false
theorem u7o_:EnvOK Tryz.prog false ubyn_:=enk ubn9_
def uu7_:Code:=u4_ Tryz.f118
theorem ubln_:CutOK Tryz.prog false Tryz.f118.ntmps ux2_ (sub uu7_ [1,1,1,0,1,0]) :=
 lok (body:=sub uu7_ [1,1,1,0,1,0,0]) (n:=1) (l:=[]) u7o_ trivial
theorem ubwi_:um_ Tryz.prog 118∧FunOK Tryz.prog 118 ubdh_ :=
 fnk (c:=uu7_) (l:=[(ux2_,sub uu7_ [1,1,1,0,1,0])]) u7o_ Tryz.func118 ⟨⟨by kernel_rfl,ubln_⟩,trivial⟩
def u48_:FSpec:=⟨[.val .str],[.val ZZ2,.val .bool],ur7_,false⟩
def u49_:List (Nat×FSpec):=[(103,ucl_),(104,udv_),(105,ubf_),(114,u4u_),(115,u7k_),(116,uzz_),(117,u62_),(118,ubdh_)]
theorem ubgd_:FsOK Tryz.prog u49_:=⟨uc6_,uej_,ubj_,ubnp_,ubre_,ubi6_,ubqy_,ubwi_,trivial⟩
def urh_:CSpec:=⟨⟨[0,4,5,29],[.val .str,.box (.val ZZ6),.val (.int .i64),.val .bool]⟩,[(.normal,⟨[0,4],[.val .str,.box (.val ZZ6)]⟩),(.ret,⟨[2,3],[.val ZZ2,.val .bool]⟩)],([0,2,3,6,7]++seg 30 15),ulz_,[]⟩
def ubrm_:Env:=mkE u49_ [(0,urh_)] [] false
theorem uz1_:EnvOK Tryz.prog false ubrm_:=enk ubgd_
def ugz_:Code:=u4_ Tryz.f65
theorem ubdj_:CutOK Tryz.prog false Tryz.f65.ntmps urh_ (sub ugz_ [1,1,1,0,1,1]) :=
 brk (c:=uqv_ (sub ugz_ [1,1,1,0,1,1])) (x:=sub ugz_ [1,1,1,0,1,1,0]) (y:=sub ugz_ [1,1,1,0,1,1,1]) (n:=0) (lx:=[]) (ly:=[]) uz1_ trivial trivial
theorem uboa_:um_ Tryz.prog 65∧FunOK Tryz.prog 65 u48_ :=
 fnk (c:=ugz_) (l:=[(urh_,sub ugz_ [1,1,1,0,1,1])]) uz1_ Tryz.func65 ⟨⟨by kernel_rfl,ubdj_⟩,trivial⟩
def ublo_:FSpec:=⟨[.val .str,.val .bool],[.val .str],u99_,false⟩
def ublp_:List (Nat×FSpec):=[(66,u05_)]
theorem ubt9_:FsOK Tryz.prog ublp_:=⟨ubc6_,trivial⟩
def ub2v_:Env:=mkE ublp_ [] [] false
theorem ubwj_:EnvOK Tryz.prog false ub2v_:=enk ubt9_
def ub2w_:Code:=u4_ Tryz.f125
theorem ub1i_:um_ Tryz.prog 125∧FunOK Tryz.prog 125 ublo_ :=
 fnk (c:=ub2w_) (l:=[]) ubwj_ Tryz.func125 trivial
def uk6_:FSpec:=⟨[.val ZZ11],[.val .bool],uhx_,true⟩
def u2s_:List (Nat×FSpec):=[]
theorem ubdk_:FsOK Tryz.prog u2s_:=trivial
def ubob_:Env:=mkE u2s_ [] [] true
theorem ubge_:EnvOK Tryz.prog true ubob_:=enk ubdk_
def uboc_:Code:=u4_ Tryz.f126
theorem uri_:um_ Tryz.prog 126∧FunOK Tryz.prog 126 uk6_ :=
 fnk (c:=uboc_) (l:=[]) ubge_ Tryz.func126 trivial
def ux3_:FSpec:=⟨[.val .str],[.val ZZ2,.val .bool],ul0_,false⟩
def ux4_:List (Nat×FSpec):=[(103,ucl_),(104,udv_),(105,ubf_),(110,uf9_),(125,ublo_),(126,uk6_)]
theorem u81_:FsOK Tryz.prog ux4_:=⟨uc6_,uej_,ubj_,uh8_,ub1i_,uri_,trivial⟩
def umy_:CSpec:=⟨⟨[0,5,24],[.val .str,.val (.int .i64),.val .bool]⟩,[(.normal,⟨[5],[.val (.int .i64)]⟩),(.ret,⟨[2,3],[.val ZZ2,.val .bool]⟩)],([2,3,5]++seg 25 27),uiq_,[]⟩
def umz_:CSpec:=⟨⟨[0,4,5],[.val .str,.box (.own 210 ZZ11 false),.val (.int .i64)]⟩,[((.exit 0),⟨[4],[.box (.own 210 ZZ11 false)]⟩),(.ret,⟨[2,3],[.val ZZ2,.val .bool]⟩)],([2,3]++seg 5 110),un3_,[]⟩
def um0_:CSpec:=⟨⟨[4],[.box (.val (.slice ZZ11))]⟩,[((.exit 2),⟨[4],[.box (.val (.slice ZZ11))]⟩)],(seg 115 23),un4_,[]⟩
def ubi9_:Env:=mkE ux4_ [(2,umy_),(0,umz_),(7,um0_)] [] false
theorem uhb_:EnvOK Tryz.prog false ubi9_:=enk u81_
def ubg_:Code:=u4_ Tryz.f67
theorem u7p_:CutOK Tryz.prog false Tryz.f67.ntmps umy_ (sub ubg_ [1,1,0,1,0,0,1,0,0,1]) :=
 brk (c:=uqv_ (sub ubg_ [1,1,0,1,0,0,1,0,0,1])) (x:=sub ubg_ [1,1,0,1,0,0,1,0,0,1,0]) (y:=sub ubg_ [1,1,0,1,0,0,1,0,0,1,1]) (n:=2) (lx:=[]) (ly:=[]) uhb_ trivial trivial
theorem u7q_:CutOK Tryz.prog false Tryz.f67.ntmps umz_ (sub ubg_ [1,1,0,1,0]) :=
 lok (body:=sub ubg_ [1,1,0,1,0,0]) (n:=1) (l:=[(umy_,sub ubg_ [1,1,0,1,0,0,1,0,0,1])]) uhb_ ⟨⟨by kernel_rfl,u7p_⟩,trivial⟩
theorem u7r_:CutOK Tryz.prog false Tryz.f67.ntmps um0_ (sub ubg_ [1,1,1,0,0]) :=
 lok (body:=sub ubg_ [1,1,1,0,0,0]) (n:=8) (l:=[]) uhb_ trivial
theorem ubgf_:um_ Tryz.prog 67∧FunOK Tryz.prog 67 ux3_ :=
 fnk (c:=ubg_) (l:=[(umz_,sub ubg_ [1,1,0,1,0]),(um0_,sub ubg_ [1,1,1,0,0])]) uhb_ Tryz.func67 ⟨⟨by kernel_rfl,u7q_⟩,⟨by kernel_rfl,u7r_⟩,trivial⟩
def u7s_:FSpec:=⟨[.val .str],[.val ZZ2,.val .bool],uu4_,false⟩
def u7t_:List (Nat×FSpec):=[(106,uhi_)]
theorem ubja_:FsOK Tryz.prog u7t_:=⟨uk5_,trivial⟩
def ubua_:Env:=mkE u7t_ [] [] false
theorem ublq_:EnvOK Tryz.prog false ubua_:=enk ubja_
def ubub_:Code:=u4_ Tryz.f68
theorem ubrn_:um_ Tryz.prog 68∧FunOK Tryz.prog 68 u7s_ :=
 fnk (c:=ubub_) (l:=[]) ublq_ Tryz.func68 trivial
def u12_:FSpec:=⟨[.val (.int .i64),.val .str],[.val ZZ2,.val (.int .i64)],u0v_,false⟩
def ubqg_:List (Nat×FSpec):=[(63,u42_),(64,u2p_),(65,u48_),(66,u05_),(67,ux3_),(68,u7s_)]
theorem ubwk_:FsOK Tryz.prog ubqg_:=⟨ubn5_,ubll_,uboa_,ubc6_,ubgf_,ubrn_,trivial⟩
def ub5h_:Env:=mkE ubqg_ [] [] false
theorem ubyo_:EnvOK Tryz.prog false ub5h_:=enk ubwk_
def ub5i_:Code:=u4_ Tryz.f31
theorem ubbs_:um_ Tryz.prog 31∧FunOK Tryz.prog 31 u12_ :=
 fnk (c:=ub5i_) (l:=[]) ubyo_ Tryz.func31 trivial
def urj_:FSpec:=⟨[.val ZZ12],[.val .str],uko_,false⟩
def u2t_:List (Nat×FSpec):=[(161,ueb_),(191,upo_)]
theorem ubdl_:FsOK Tryz.prog u2t_:=⟨uep_,uuj_,trivial⟩
def upy_:CSpec:=⟨⟨[3,6,7,8],[.own 9 .str false,.val ZZ12,.val (.int .i64),.val (.int .i64)]⟩,[((.exit 0),⟨[3],[.own 9 .str false]⟩)],([3,5]++seg 8 10),uq2_,[]⟩
def ubod_:Env:=mkE u2t_ [(0,upy_)] [] false
theorem ux5_:EnvOK Tryz.prog false ubod_:=enk ubdl_
def ul7_:Code:=u4_ Tryz.f302
theorem ubbt_:CutOK Tryz.prog false Tryz.f302.ntmps upy_ (sub ul7_ [1,1,0,1,0]) :=
 lok (body:=sub ul7_ [1,1,0,1,0,0]) (n:=1) (l:=[]) ux5_ trivial
theorem u2u_:um_ Tryz.prog 302∧FunOK Tryz.prog 302 urj_ :=
 fnk (c:=ul7_) (l:=[(upy_,sub ul7_ [1,1,0,1,0])]) ux5_ Tryz.func302 ⟨⟨by kernel_rfl,ubbt_⟩,trivial⟩
def upz_:FSpec:=⟨[.val (.agg (.prod (.arr 3 (.int .i64)) (.slice .str)))],[.val .str],ui7_,false⟩
def uz2_:List (Nat×FSpec):=[(191,upo_),(302,urj_)]
theorem ubbu_:FsOK Tryz.prog uz2_:=⟨uuj_,u2u_,trivial⟩
def ublr_:Env:=mkE uz2_ [] [] false
theorem ubdm_:EnvOK Tryz.prog false ublr_:=enk ubbu_
def ubls_:Code:=u4_ Tryz.f299
theorem uz3_:um_ Tryz.prog 299∧FunOK Tryz.prog 299 upz_ :=
 fnk (c:=ubls_) (l:=[]) ubdm_ Tryz.func299 trivial
def u2v_:FSpec:=⟨[.val .str],[.val .str],ukp_,false⟩
def u2w_:List (Nat×FSpec):=[(103,ucl_),(104,udv_),(105,ubf_),(120,ucb_),(121,ud6_),(122,ub5_),(161,ueb_)]
theorem ubdn_:FsOK Tryz.prog u2w_:=⟨uc6_,uej_,ubj_,uc5_,uf8_,uco_,uep_,trivial⟩
def up0_:CSpec:=⟨⟨[0,3,4],[.val .str,.bld 5 false,.val (.int .i64)]⟩,[((.exit 0),⟨[3],[.bld 5 false]⟩)],(seg 4 49),uq3_,[]⟩
def uboe_:Env:=mkE u2w_ [(0,up0_)] [] false
theorem ux6_:EnvOK Tryz.prog false uboe_:=enk ubdn_
def ul8_:Code:=u4_ Tryz.f309
theorem ubbv_:CutOK Tryz.prog false Tryz.f309.ntmps up0_ (sub ul8_ [1,1,0,1,0]) :=
 lok (body:=sub ul8_ [1,1,0,1,0,0]) (n:=1) (l:=[]) ux6_ trivial
theorem ublt_:um_ Tryz.prog 309∧FunOK Tryz.prog 309 u2v_ :=
 fnk (c:=ul8_) (l:=[(up0_,sub ul8_ [1,1,0,1,0])]) ux6_ Tryz.func309 ⟨⟨by kernel_rfl,ubbv_⟩,trivial⟩
def up1_:FSpec:=⟨[.val (.agg ZZ17)],[.val .str],ui8_,true⟩
def uz4_:List (Nat×FSpec):=[]
theorem ubbw_:FsOK Tryz.prog uz4_:=trivial
def ublu_:Env:=mkE uz4_ [] [] true
theorem ubdo_:EnvOK Tryz.prog true ublu_:=enk ubbw_
def ublv_:Code:=u4_ Tryz.f311
theorem uz5_:um_ Tryz.prog 311∧FunOK Tryz.prog 311 up1_ :=
 fnk (c:=ublv_) (l:=[]) ubdo_ Tryz.func311 trivial
def ux7_:FSpec:=⟨[.val (.int .u8)],[.val .bool],ul1_,true⟩
def ux8_:List (Nat×FSpec):=[(105,ubf_)]
theorem u82_:FsOK Tryz.prog ux8_:=⟨ubj_,trivial⟩
def ubjb_:Env:=mkE ux8_ [] [] true
theorem ubbx_:EnvOK Tryz.prog true ubjb_:=enk u82_
def ubjc_:Code:=u4_ Tryz.f312
theorem ubgg_:um_ Tryz.prog 312∧FunOK Tryz.prog 312 ux7_ :=
 fnk (c:=ubjc_) (l:=[]) ubbx_ Tryz.func312 trivial
def ubdp_:FSpec:=⟨[.val .str],[.val .str],u1t_,false⟩
def ubdq_:List (Nat×FSpec):=[(110,uf9_),(121,ud6_),(122,ub5_)]
theorem ubof_:FsOK Tryz.prog ubdq_:=⟨uh8_,uf8_,uco_,trivial⟩
def ux9_:CSpec:=⟨⟨[0,3,6,7],[.val .str,.bld 5 false,.val (.int .i64),.val (.int .i64)]⟩,[((.exit 0),⟨[3],[.bld 5 false]⟩)],([4]++seg 7 24),u0w_,[]⟩
def ubyp_:Env:=mkE ubdq_ [(0,ux9_)] [] false
theorem u7u_:EnvOK Tryz.prog false ubyp_:=enk ubof_
def uu8_:Code:=u4_ Tryz.f313
theorem ublw_:CutOK Tryz.prog false Tryz.f313.ntmps ux9_ (sub uu8_ [1,1,0,1,0]) :=
 lok (body:=sub uu8_ [1,1,0,1,0,0]) (n:=1) (l:=[]) u7u_ trivial
theorem ubwl_:um_ Tryz.prog 313∧FunOK Tryz.prog 313 ubdp_ :=
 fnk (c:=uu8_) (l:=[(ux9_,sub uu8_ [1,1,0,1,0])]) u7u_ Tryz.func313 ⟨⟨by kernel_rfl,ublw_⟩,trivial⟩
def uec_:FSpec:=⟨[.val (.int .i64)],[.val .str],ud2_,false⟩
def ubqh_:List (Nat×FSpec):=[(161,ueb_),(210,ubht_)]
theorem ubwm_:FsOK Tryz.prog ubqh_:=⟨uep_,ubx7_,trivial⟩
def ub5j_:Env:=mkE ubqh_ [] [] false
theorem ubyq_:EnvOK Tryz.prog false ub5j_:=enk ubwm_
def ub5k_:Code:=u4_ Tryz.f160
theorem ueq_:um_ Tryz.prog 160∧FunOK Tryz.prog 160 uec_ :=
 fnk (c:=ub5k_) (l:=[]) ubyq_ Tryz.func160 trivial
def utt_:FSpec:=⟨[.val .str],[.val .str],ugv_,false⟩
def u5a_:List (Nat×FSpec):=[(103,ucl_),(104,udv_),(105,ubf_),(120,ucb_),(122,ub5_),(160,uec_),(312,ux7_),(313,ubdp_)]
theorem ubgh_:FsOK Tryz.prog u5a_:=⟨uc6_,uej_,ubj_,uc5_,uco_,ueq_,ubgg_,ubwl_,trivial⟩
def urk_:CSpec:=⟨⟨[0,3],[.val .str,.bld 5 false]⟩,[((.exit 0),⟨[3],[.bld 5 false]⟩)],([0]++seg 4 34),utc_,[]⟩
def ubro_:Env:=mkE u5a_ [(0,urk_)] [] false
theorem uz6_:EnvOK Tryz.prog false ubro_:=enk ubgh_
def uoe_:Code:=u4_ Tryz.f310
theorem ubdr_:CutOK Tryz.prog false Tryz.f310.ntmps urk_ (sub uoe_ [1,1,0,0]) :=
 lok (body:=sub uoe_ [1,1,0,0,0]) (n:=1) (l:=[]) uz6_ trivial
theorem u5b_:um_ Tryz.prog 310∧FunOK Tryz.prog 310 utt_ :=
 fnk (c:=uoe_) (l:=[(urk_,sub uoe_ [1,1,0,0])]) uz6_ Tryz.func310 ⟨⟨by kernel_rfl,ubdr_⟩,trivial⟩
def uof_:FSpec:=⟨[.val (.agg ZZ17)],[.val .str],uik_,false⟩
def uya_:List (Nat×FSpec):=[(161,ueb_),(309,u2v_),(310,utt_),(311,up1_)]
theorem u83_:FsOK Tryz.prog uya_:=⟨uep_,ublt_,u5b_,uz5_,trivial⟩
def um1_:CSpec:=⟨⟨[1,3,9],[.box (.val ZZ17),.val .str,.val .bool]⟩,[(.normal,⟨[1,3],[.box (.val ZZ17),.val .str]⟩)],[3,10,11,12,13,14,15],uir_,[]⟩
def ubjd_:Env:=mkE uya_ [(0,um1_)] [] false
theorem uun_:EnvOK Tryz.prog false ubjd_:=enk u83_
def uem_:Code:=u4_ Tryz.f306
theorem u7v_:CutOK Tryz.prog false Tryz.f306.ntmps um1_ (sub uem_ [1,1,0,1]) :=
 brk (c:=uqv_ (sub uem_ [1,1,0,1])) (x:=sub uem_ [1,1,0,1,0]) (y:=sub uem_ [1,1,0,1,1]) (n:=0) (lx:=[]) (ly:=[]) uun_ trivial trivial
theorem uyb_:um_ Tryz.prog 306∧FunOK Tryz.prog 306 uof_ :=
 fnk (c:=uem_) (l:=[(um1_,sub uem_ [1,1,0,1])]) uun_ Tryz.func306 ⟨⟨by kernel_rfl,u7v_⟩,trivial⟩
def u1f_:FSpec:=⟨[.val ZZ12],[.val ZZ12],uua_,true⟩
def ubds_:List (Nat×FSpec):=[]
theorem ubog_:FsOK Tryz.prog ubds_:=trivial
def uyc_:CSpec:=⟨⟨[0],[.val ZZ12]⟩,[((.exit 0),⟨[0],[.val ZZ12]⟩)],([0]++seg 3 17),u0x_,[]⟩
def ubyr_:Env:=mkE ubds_ [(0,uyc_)] [] true
theorem u7w_:EnvOK Tryz.prog true ubyr_:=enk ubog_
def uu9_:Code:=u4_ Tryz.f317
theorem ublx_:CutOK Tryz.prog true Tryz.f317.ntmps uyc_ (sub uu9_ [1,0,0]) :=
 lok (body:=sub uu9_ [1,0,0,0]) (n:=1) (l:=[]) u7w_ trivial
theorem ubdt_:um_ Tryz.prog 317∧FunOK Tryz.prog 317 u1f_ :=
 fnk (c:=uu9_) (l:=[(uyc_,sub uu9_ [1,0,0])]) u7w_ Tryz.func317 ⟨⟨by kernel_rfl,ublx_⟩,trivial⟩
def up2_:FSpec:=⟨[.val (.agg ZZ6)],[.val .str],ui9_,false⟩
def uz7_:List (Nat×FSpec):=[(103,ucl_),(161,ueb_),(302,urj_),(317,u1f_)]
theorem ubby_:FsOK Tryz.prog uz7_:=⟨uc6_,uep_,u2u_,ubdt_,trivial⟩
def uog_:CSpec:=⟨⟨[1,3,11],[.box (.val ZZ6),.val .str,.val .bool]⟩,[(.normal,⟨[1,3],[.box (.val ZZ6),.val .str]⟩)],[3,12,13,14,15],ujj_,[]⟩
def uoh_:CSpec:=⟨⟨[3,4,21],[.val .str,.val ZZ12,.val .bool]⟩,[(.normal,⟨[3],[.val .str]⟩)],[3,22,23,24,25,26,27],ujk_,[]⟩
def uoi_:CSpec:=⟨⟨[1,3,30],[.box (.val ZZ6),.val .str,.val .bool]⟩,[(.normal,⟨[1,3],[.box (.val ZZ6),.val .str]⟩)],([3]++seg 31 11),ujl_,[]⟩
def uoj_:CSpec:=⟨⟨[1,3,44],[.box (.val ZZ6),.val .str,.val .bool]⟩,[(.normal,⟨[1,3],[.box (.val ZZ6),.val .str]⟩)],[3,45,46,47,48,49,50],ujm_,[]⟩
def uok_:CSpec:=⟨⟨[1,3,53],[.box (.val ZZ6),.val .str,.val .bool]⟩,[(.normal,⟨[1,3],[.box (.val ZZ6),.val .str]⟩)],[3,54,55,56,57,58,59],ujn_,[]⟩
def uol_:CSpec:=⟨⟨[6,7,73],[.val .str,.val (.int .i64),.val .bool]⟩,[(.normal,⟨[6],[.val .str]⟩)],[6,74,75],ujo_,[]⟩
def uom_:CSpec:=⟨⟨[3,61,62,63],[.val .str,.val (.slice .str),.val (.int .i64),.val (.int .i64)]⟩,[((.exit 0),⟨[3],[.val .str]⟩)],([3,5,6,7,8]++seg 63 24),ups_,[]⟩
def ubly_:Env:=mkE uz7_ [(0,uog_),(1,uoh_),(2,uoi_),(3,uoj_),(4,uok_),(7,uol_),(5,uom_)] [] false
theorem ub6_:EnvOK Tryz.prog false ubly_:=enk ubby_
def uk_:Code:=u4_ Tryz.f314
theorem u84_:CutOK Tryz.prog false Tryz.f314.ntmps uog_ (sub uk_ [1,1,0,1]) :=
 brk (c:=uqv_ (sub uk_ [1,1,0,1])) (x:=sub uk_ [1,1,0,1,0]) (y:=sub uk_ [1,1,0,1,1]) (n:=0) (lx:=[]) (ly:=[]) ub6_ trivial trivial
theorem u85_:CutOK Tryz.prog false Tryz.f314.ntmps uoh_ (sub uk_ [1,1,1,0,1,1]) :=
 brk (c:=uqv_ (sub uk_ [1,1,1,0,1,1])) (x:=sub uk_ [1,1,1,0,1,1,0]) (y:=sub uk_ [1,1,1,0,1,1,1]) (n:=1) (lx:=[]) (ly:=[]) ub6_ trivial trivial
theorem u86_:CutOK Tryz.prog false Tryz.f314.ntmps uoi_ (sub uk_ [1,1,1,1,0,1]) :=
 brk (c:=uqv_ (sub uk_ [1,1,1,1,0,1])) (x:=sub uk_ [1,1,1,1,0,1,0]) (y:=sub uk_ [1,1,1,1,0,1,1]) (n:=2) (lx:=[]) (ly:=[]) ub6_ trivial trivial
theorem u87_:CutOK Tryz.prog false Tryz.f314.ntmps uoj_ (sub uk_ [1,1,1,1,1,0,1]) :=
 brk (c:=uqv_ (sub uk_ [1,1,1,1,1,0,1])) (x:=sub uk_ [1,1,1,1,1,0,1,0]) (y:=sub uk_ [1,1,1,1,1,0,1,1]) (n:=3) (lx:=[]) (ly:=[]) ub6_ trivial trivial
theorem u88_:CutOK Tryz.prog false Tryz.f314.ntmps uok_ (sub uk_ [1,1,1,1,1,1,0,1]) :=
 brk (c:=uqv_ (sub uk_ [1,1,1,1,1,1,0,1])) (x:=sub uk_ [1,1,1,1,1,1,0,1,0]) (y:=sub uk_ [1,1,1,1,1,1,0,1,1]) (n:=4) (lx:=[]) (ly:=[]) ub6_ trivial trivial
theorem u89_:CutOK Tryz.prog false Tryz.f314.ntmps uol_ (sub uk_ [1,1,1,1,1,1,1,0,1,0,0,1,1,0,0,1,0,1,1]) :=
 brk (c:=uqv_ (sub uk_ [1,1,1,1,1,1,1,0,1,0,0,1,1,0,0,1,0,1,1])) (x:=sub uk_ [1,1,1,1,1,1,1,0,1,0,0,1,1,0,0,1,0,1,1,0]) (y:=sub uk_ [1,1,1,1,1,1,1,0,1,0,0,1,1,0,0,1,0,1,1,1]) (n:=7) (lx:=[]) (ly:=[]) ub6_ trivial trivial
theorem u9a_:CutOK Tryz.prog false Tryz.f314.ntmps uom_ (sub uk_ [1,1,1,1,1,1,1,0,1,0]) :=
 lok (body:=sub uk_ [1,1,1,1,1,1,1,0,1,0,0]) (n:=6) (l:=[(uol_,sub uk_ [1,1,1,1,1,1,1,0,1,0,0,1,1,0,0,1,0,1,1])]) ub6_ ⟨⟨by kernel_rfl,u89_⟩,trivial⟩
theorem uz8_:um_ Tryz.prog 314∧FunOK Tryz.prog 314 up2_ :=
 fnk (c:=uk_) (l:=[(uog_,sub uk_ [1,1,0,1]),(uoh_,sub uk_ [1,1,1,0,1,1]),(uoi_,sub uk_ [1,1,1,1,0,1]),(uoj_,sub uk_ [1,1,1,1,1,0,1]),(uok_,sub uk_ [1,1,1,1,1,1,0,1]),(uom_,sub uk_ [1,1,1,1,1,1,1,0,1,0])]) ub6_ Tryz.func314 ⟨⟨by kernel_rfl,u84_⟩,⟨by kernel_rfl,u85_⟩,⟨by kernel_rfl,u86_⟩,⟨by kernel_rfl,u87_⟩,⟨by kernel_rfl,u88_⟩,⟨by kernel_rfl,u9a_⟩,trivial⟩
def uln_:FSpec:=⟨[.val (.agg (.slice ZZ11))],[.val .str],ugj_,false⟩
def uuo_:List (Nat×FSpec):=[(126,uk6_),(161,ueb_),(191,upo_)]
theorem u57_:FsOK Tryz.prog uuo_:=⟨uri_,uep_,uuj_,trivial⟩
def uj7_:CSpec:=⟨⟨[3,7,8,9],[.own 9 .str false,.val (.slice ZZ11),.val (.int .i64),.val (.int .i64)]⟩,[((.exit 0),⟨[3],[.own 9 .str false]⟩)],([3,5]++seg 9 25),ulf_,[]⟩
def ubdu_:Env:=mkE uuo_ [(0,uj7_)] [] false
theorem url_:EnvOK Tryz.prog false ubdu_:=enk u57_
def uh9_:Code:=u4_ Tryz.f323
theorem u31_:CutOK Tryz.prog false Tryz.f323.ntmps uj7_ (sub uh9_ [1,1,0,1,0]) :=
 lok (body:=sub uh9_ [1,1,0,1,0,0]) (n:=1) (l:=[]) url_ trivial
theorem uup_:um_ Tryz.prog 323∧FunOK Tryz.prog 323 uln_ :=
 fnk (c:=uh9_) (l:=[(uj7_,sub uh9_ [1,1,0,1,0])]) url_ Tryz.func323 ⟨⟨by kernel_rfl,u31_⟩,trivial⟩
def urm_:FSpec:=⟨[.val (.agg (.int .i64))],[.val .str],ukq_,true⟩
def u2x_:List (Nat×FSpec):=[(161,ueb_)]
theorem ubdv_:FsOK Tryz.prog u2x_:=⟨uep_,trivial⟩
def uboh_:Env:=mkE u2x_ [] [] true
theorem ubgi_:EnvOK Tryz.prog true uboh_:=enk ubdv_
def uboi_:Code:=u4_ Tryz.f329
theorem u2y_:um_ Tryz.prog 329∧FunOK Tryz.prog 329 urm_ :=
 fnk (c:=uboi_) (l:=[]) ubgi_ Tryz.func329 trivial
def ubdw_:FSpec:=⟨[.val ZZ2],[.val .str,.val (.int .i64)],u1u_,false⟩
def ubdx_:List (Nat×FSpec):=[(299,upz_),(306,uof_),(314,up2_),(323,uln_),(329,urm_)]
theorem uboj_:FsOK Tryz.prog ubdx_:=⟨uz3_,uyb_,uz8_,uup_,u2y_,trivial⟩
def ubys_:Env:=mkE ubdx_ [] [] false
theorem ubrp_:EnvOK Tryz.prog false ubys_:=enk uboj_
def ubyt_:Code:=u4_ Tryz.f97
theorem ubwn_:um_ Tryz.prog 97∧FunOK Tryz.prog 97 ubdw_ :=
 fnk (c:=ubyt_) (l:=[]) ubrp_ Tryz.func97 trivial
def urn_:FSpec:=⟨[.val (.int .i64),.val .str],[.val .str,.val (.int .i64)],uq4_,false⟩
def ublz_:List (Nat×FSpec):=[(31,u12_),(97,ubdw_)]
theorem ubuc_:FsOK Tryz.prog ublz_:=⟨ubbs_,ubwn_,trivial⟩
def ub2x_:Env:=mkE ublz_ [] [] false
theorem ubwo_:EnvOK Tryz.prog false ub2x_:=enk ubuc_
def ub2y_:Code:=u4_ Tryz.f52
theorem uyd_:um_ Tryz.prog 52∧FunOK Tryz.prog 52 urn_ :=
 fnk (c:=ub2y_) (l:=[]) ubwo_ Tryz.func52 trivial
def uz9_:FSpec:=⟨[.val (.agg ZZ4)],[.val (.int .i64)],un5_,false⟩
def u0a_:List (Nat×FSpec):=[(52,urn_)]
theorem ubbz_:FsOK Tryz.prog u0a_:=⟨uyd_,trivial⟩
def uon_:CSpec:=⟨⟨[1,12,13,14],[.box (.val ZZ4),.val ZZ15,.val (.int .i64),.val (.int .i64)]⟩,[((.exit 0),⟨[],[]⟩),(.ret,⟨[2],[.val (.int .i64)]⟩)],([2,4,5,6]++seg 14 30),upt_,[]⟩
def ubl0_:Env:=mkE u0a_ [(1,uon_)] [] false
theorem uwg_:EnvOK Tryz.prog false ubl0_:=enk ubbz_
def uk7_:Code:=u4_ Tryz.f51
theorem u9b_:CutOK Tryz.prog false Tryz.f51.ntmps uon_ (sub uk7_ [1,1,0,1,0]) :=
 lok (body:=sub uk7_ [1,1,0,1,0,0]) (n:=2) (l:=[]) uwg_ trivial
theorem ubje_:um_ Tryz.prog 51∧FunOK Tryz.prog 51 uz9_ :=
 fnk (c:=uk7_) (l:=[(uon_,sub uk7_ [1,1,0,1,0])]) uwg_ Tryz.func51 ⟨⟨by kernel_rfl,u9b_⟩,trivial⟩
def uuq_:FSpec:=⟨[.val (.slice .str)],[.val (.int .i64)],ujp_,true⟩
def uur_:List (Nat×FSpec):=[]
theorem u58_:FsOK Tryz.prog uur_:=trivial
def uj8_:CSpec:=⟨⟨[4,5,25,26],[.val .str,.val .bool,.val (.int .i64),.val (.int .i64)]⟩,[((.exit 2),⟨[5],[.val .bool]⟩)],([5,6]++seg 26 17),ulg_,[]⟩
def uj9_:CSpec:=⟨⟨[0,10,11,12],[.val (.slice .str),.val (.slice .str),.val (.int .i64),.val (.int .i64)]⟩,[((.exit 0),⟨[],[]⟩),(.ret,⟨[2],[.val (.int .i64)]⟩)],([2,3,4,5,6]++seg 12 46),ulh_,[]⟩
def ubdy_:Env:=mkE uur_ [(3,uj8_),(1,uj9_)] [] true
theorem ujd_:EnvOK Tryz.prog true ubdy_:=enk u58_
def ucp_:Code:=u4_ Tryz.f53
theorem u32_:CutOK Tryz.prog true Tryz.f53.ntmps uj8_ (sub ucp_ [1,1,0,1,0,0,1,1,0,0,1,1,0,1,0]) :=
 lok (body:=sub ucp_ [1,1,0,1,0,0,1,1,0,0,1,1,0,1,0,0]) (n:=4) (l:=[]) ujd_ trivial
theorem u33_:CutOK Tryz.prog true Tryz.f53.ntmps uj9_ (sub ucp_ [1,1,0,1,0]) :=
 lok (body:=sub ucp_ [1,1,0,1,0,0]) (n:=2) (l:=[(uj8_,sub ucp_ [1,1,0,1,0,0,1,1,0,0,1,1,0,1,0])]) ujd_ ⟨⟨by kernel_rfl,u32_⟩,trivial⟩
theorem ubb0_:um_ Tryz.prog 53∧FunOK Tryz.prog 53 uuq_ :=
 fnk (c:=ucp_) (l:=[(uj9_,sub ucp_ [1,1,0,1,0])]) ujd_ Tryz.func53 ⟨⟨by kernel_rfl,u33_⟩,trivial⟩
def uwh_:FSpec:=⟨[.val (.agg ZZ4)],[.val (.int .i64)],ukr_,false⟩
def uwi_:List (Nat×FSpec):=[(50,ubh2_),(51,uz9_),(52,urn_),(53,uuq_)]
theorem u7x_:FsOK Tryz.prog uwi_:=⟨ubyg_,ubje_,uyd_,ubb0_,trivial⟩
def ulo_:CSpec:=⟨⟨[1,32,33,34],[.box (.val ZZ4),.val (.slice .str),.val (.int .i64),.val (.int .i64)]⟩,[((.exit 1),⟨[1],[.box (.val ZZ4)]⟩),(.ret,⟨[2],[.val (.int .i64)]⟩)],([2,5,6,7]++seg 34 15),umi_,[]⟩
def ubgj_:Env:=mkE uwi_ [(4,ulo_)] [] false
theorem usz_:EnvOK Tryz.prog false ubgj_:=enk u7x_
def uix_:Code:=u4_ Tryz.f27
theorem u59_:CutOK Tryz.prog false Tryz.f27.ntmps ulo_ (sub uix_ [1,1,1,1,0,1,0]) :=
 lok (body:=sub uix_ [1,1,1,1,0,1,0,0]) (n:=5) (l:=[]) usz_ trivial
theorem ubdz_:um_ Tryz.prog 27∧FunOK Tryz.prog 27 uwh_ :=
 fnk (c:=uix_) (l:=[(ulo_,sub uix_ [1,1,1,1,0,1,0])]) usz_ Tryz.func27 ⟨⟨by kernel_rfl,u59_⟩,trivial⟩
def ubh9_:FSpec:=⟨[],[.val (.arr 4 (.int .i64))],u50_,true⟩
def ubia_:List (Nat×FSpec):=[]
theorem ubrq_:FsOK Tryz.prog ubia_:=trivial
def ub1j_:Env:=mkE ubia_ [] [] true
theorem ubud_:EnvOK Tryz.prog true ub1j_:=enk ubrq_
def ub1k_:Code:=u4_ Tryz.f100
theorem ubyu_:um_ Tryz.prog 100∧FunOK Tryz.prog 100 ubh9_ :=
 fnk (c:=ub1k_) (l:=[]) ubud_ Tryz.func100 trivial
def uro_:FSpec:=⟨[.val ZZ12,.val .str,.hof false (.int .i64) .str],[.val .str],uks_,false⟩
def u2z_:List (Nat×FSpec):=[(120,ucb_),(122,ub5_)]
theorem ubd0_:FsOK Tryz.prog u2z_:=⟨uc5_,uco_,trivial⟩
def up3_:CSpec:=⟨⟨[2,7,10,11,12],[.hof false (.int .i64) .str,.bld 5 false,.val ZZ12,.val (.int .i64),.val (.int .i64)]⟩,[((.exit 0),⟨[7],[.bld 5 false]⟩)],([9]++seg 12 9),uq5_,[]⟩
def ubok_:Env:=mkE u2z_ [(0,up3_)] [] false
theorem uye_:EnvOK Tryz.prog false ubok_:=enk ubd0_
def ul9_:Code:=u4_ Tryz.f303
theorem ubb1_:CutOK Tryz.prog false Tryz.f303.ntmps up3_ (sub ul9_ [1,1,0,1,0]) :=
 lok (body:=sub ul9_ [1,1,0,1,0,0]) (n:=1) (l:=[]) uye_ trivial
theorem u20_:um_ Tryz.prog 303∧FunOK Tryz.prog 303 uro_ :=
 fnk (c:=ul9_) (l:=[(up3_,sub ul9_ [1,1,0,1,0])]) uye_ Tryz.func303 ⟨⟨by kernel_rfl,ubb1_⟩,trivial⟩
def um2_:FSpec:=⟨[.val (.slice .str),.val .str,.hof false .str .str],[.val .str],uhe_,false⟩
def uwj_:List (Nat×FSpec):=[(120,ucb_),(122,ub5_)]
theorem u7y_:FsOK Tryz.prog uwj_:=⟨uc5_,uco_,trivial⟩
def ulp_:CSpec:=⟨⟨[2,7,10,11,12],[.hof false .str .str,.bld 5 false,.val (.slice .str),.val (.int .i64),.val (.int .i64)]⟩,[((.exit 0),⟨[7],[.bld 5 false]⟩)],([9]++seg 12 9),umj_,[]⟩
def ubgk_:Env:=mkE uwj_ [(0,ulp_)] [] false
theorem us0_:EnvOK Tryz.prog false ubgk_:=enk u7y_
def uiy_:Code:=u4_ Tryz.f304
theorem u6a_:CutOK Tryz.prog false Tryz.f304.ntmps ulp_ (sub uiy_ [1,1,0,1,0]) :=
 lok (body:=sub uiy_ [1,1,0,1,0,0]) (n:=1) (l:=[]) us0_ trivial
theorem uwk_:um_ Tryz.prog 304∧FunOK Tryz.prog 304 um2_ :=
 fnk (c:=uiy_) (l:=[(ulp_,sub uiy_ [1,1,0,1,0])]) us0_ Tryz.func304 ⟨⟨by kernel_rfl,u6a_⟩,trivial⟩
def ubd1_:FSpec:=⟨[.val .str],[.val .str],u1v_,false⟩
def ubd2_:List (Nat×FSpec):=[(103,ucl_),(160,uec_)]
theorem ubol_:FsOK Tryz.prog ubd2_:=⟨uc6_,ueq_,trivial⟩
def ubyv_:Env:=mkE ubd2_ [] [] false
theorem ubrr_:EnvOK Tryz.prog false ubyv_:=enk ubol_
def ubyw_:Code:=u4_ Tryz.f305
theorem ubwp_:um_ Tryz.prog 305∧FunOK Tryz.prog 305 ubd1_ :=
 fnk (c:=ubyw_) (l:=[]) ubrr_ Tryz.func305 trivial
def utu_:FSpec:=⟨[.val (.agg (.prod (.arr 3 (.int .i64)) (.slice .str)))],[.val .str],umk_,false⟩
def u5c_:List (Nat×FSpec):=[(160,uec_),(303,uro_),(304,um2_),(305,ubd1_)]
theorem ubgl_:FsOK Tryz.prog u5c_:=⟨ueq_,u20_,uwk_,ubwp_,trivial⟩
def ubrs_:Env:=mkE u5c_ [] [] false
theorem ubjf_:EnvOK Tryz.prog false ubrs_:=enk ubgl_
def ubrt_:Code:=u4_ Tryz.f300
theorem u5d_:um_ Tryz.prog 300∧FunOK Tryz.prog 300 utu_ :=
 fnk (c:=ubrt_) (l:=[]) ubjf_ Tryz.func300 trivial
def urp_:FSpec:=⟨[.val (.agg ZZ17)],[.val .str],ukt_,false⟩
def u21_:List (Nat×FSpec):=[(160,uec_),(310,utt_),(311,up1_)]
theorem ubd3_:FsOK Tryz.prog u21_:=⟨ueq_,u5b_,uz5_,trivial⟩
def ubom_:Env:=mkE u21_ [] [] false
theorem ubgm_:EnvOK Tryz.prog false ubom_:=enk ubd3_
def ubon_:Code:=u4_ Tryz.f307
theorem u22_:um_ Tryz.prog 307∧FunOK Tryz.prog 307 urp_ :=
 fnk (c:=ubon_) (l:=[]) ubgm_ Tryz.func307 trivial
def uyf_:FSpec:=⟨[.val (.int .i64)],[.val .str],ul2_,false⟩
def uyg_:List (Nat×FSpec):=[(160,uec_)]
theorem u9c_:FsOK Tryz.prog uyg_:=⟨ueq_,trivial⟩
def ubjg_:Env:=mkE uyg_ [] [] false
theorem ubb2_:EnvOK Tryz.prog false ubjg_:=enk u9c_
def ubjh_:Code:=u4_ Tryz.f318
theorem ubgn_:um_ Tryz.prog 318∧FunOK Tryz.prog 318 uyf_ :=
 fnk (c:=ubjh_) (l:=[]) ubb2_ Tryz.func318 trivial
def u0b_:FSpec:=⟨[.val (.agg ZZ6)],[.val (.int .i64)],un6_,true⟩
def u0c_:List (Nat×FSpec):=[]
theorem ubb3_:FsOK Tryz.prog u0c_:=trivial
def ubl1_:Env:=mkE u0c_ [] [] true
theorem ubd4_:EnvOK Tryz.prog true ubl1_:=enk ubb3_
def ubl2_:Code:=u4_ Tryz.f319
theorem ubji_:um_ Tryz.prog 319∧FunOK Tryz.prog 319 u0b_ :=
 fnk (c:=ubl2_) (l:=[]) ubd4_ Tryz.func319 trivial
def ubl3_:FSpec:=⟨[.val (.int .i64)],[.val .str],ubaa_,false⟩
def ubl4_:List (Nat×FSpec):=[(160,uec_)]
theorem ubue_:FsOK Tryz.prog ubl4_:=⟨ueq_,trivial⟩
def ub2z_:Env:=mkE ubl4_ [] [] false
theorem ubwq_:EnvOK Tryz.prog false ub2z_:=enk ubue_
def ub20_:Code:=u4_ Tryz.f320
theorem ub1l_:um_ Tryz.prog 320∧FunOK Tryz.prog 320 ubl3_ :=
 fnk (c:=ub20_) (l:=[]) ubwq_ Tryz.func320 trivial
def ubay_:FSpec:=⟨[.val .str],[.val .str],uxg_,false⟩
def ubaz_:List (Nat×FSpec):=[(103,ucl_),(160,uec_)]
theorem ubl5_:FsOK Tryz.prog ubaz_:=⟨uc6_,ueq_,trivial⟩
def ubwr_:Env:=mkE ubaz_ [] [] false
theorem uboo_:EnvOK Tryz.prog false ubwr_:=enk ubl5_
def ubws_:Code:=u4_ Tryz.f321
theorem ubuf_:um_ Tryz.prog 321∧FunOK Tryz.prog 321 ubay_ :=
 fnk (c:=ubws_) (l:=[]) uboo_ Tryz.func321 trivial
def utv_:FSpec:=⟨[.val (.agg ZZ6)],[.val .str],uml_,false⟩
def u5e_:List (Nat×FSpec):=[(160,uec_),(161,ueb_),(303,uro_),(304,um2_),(317,u1f_),(318,uyf_),(319,u0b_),(320,ubl3_),(321,ubay_)]
theorem ubgo_:FsOK Tryz.prog u5e_:=⟨ueq_,uep_,u20_,uwk_,ubdt_,ubgn_,ubji_,ub1l_,ubuf_,trivial⟩
def urq_:CSpec:=⟨⟨[1,3,27],[.box (.val ZZ6),.val .str,.val .bool]⟩,[(.normal,⟨[1,3],[.box (.val ZZ6),.val .str]⟩)],([3]++seg 28 8),ul3_,[]⟩
def ubru_:Env:=mkE u5e_ [(0,urq_)] [] false
theorem u0d_:EnvOK Tryz.prog false ubru_:=enk ubgo_
def ug0_:Code:=u4_ Tryz.f315
theorem ubd5_:CutOK Tryz.prog false Tryz.f315.ntmps urq_ (sub ug0_ [1,1,1,0,1]) :=
 brk (c:=uqv_ (sub ug0_ [1,1,1,0,1])) (x:=sub ug0_ [1,1,1,0,1,0]) (y:=sub ug0_ [1,1,1,0,1,1]) (n:=0) (lx:=[]) (ly:=[]) u0d_ trivial trivial
theorem u5f_:um_ Tryz.prog 315∧FunOK Tryz.prog 315 utv_ :=
 fnk (c:=ug0_) (l:=[(urq_,sub ug0_ [1,1,1,0,1])]) u0d_ Tryz.func315 ⟨⟨by kernel_rfl,ubd5_⟩,trivial⟩
def u7z_:FSpec:=⟨[],[.val (.slice .str)],u2e_,true⟩
def ubl6_:List (Nat×FSpec):=[]
theorem ubug_:FsOK Tryz.prog ubl6_:=trivial
def ub21_:Env:=mkE ubl6_ [] [] true
theorem ubwt_:EnvOK Tryz.prog true ub21_:=enk ubug_
def ub22_:Code:=u4_ Tryz.f328
theorem ubl7_:um_ Tryz.prog 328∧FunOK Tryz.prog 328 u7z_ :=
 fnk (c:=ub22_) (l:=[]) ubwt_ Tryz.func328 trivial
def uk8_:FSpec:=⟨[.val (.slice .str),.val .str],[.val (.int .i64)],uf4_,true⟩
def u23_:List (Nat×FSpec):=[]
theorem ubd6_:FsOK Tryz.prog u23_:=trivial
def up4_:CSpec:=⟨⟨[0,1,7,8],[.val (.slice .str),.val .str,.val (.int .i64),.val (.int .i64)]⟩,[((.exit 0),⟨[],[]⟩),(.ret,⟨[4],[.val (.int .i64)]⟩)],([4,5]++seg 8 11),uq7_,[]⟩
def ubop_:Env:=mkE u23_ [(0,up4_)] [] true
theorem uyh_:EnvOK Tryz.prog true ubop_:=enk ubd6_
def uma_:Code:=u4_ Tryz.f24
theorem ubb4_:CutOK Tryz.prog true Tryz.f24.ntmps up4_ (sub uma_ [1,0,1,0]) :=
 lok (body:=sub uma_ [1,0,1,0,0]) (n:=1) (l:=[]) uyh_ trivial
theorem urr_:um_ Tryz.prog 24∧FunOK Tryz.prog 24 uk8_ :=
 fnk (c:=uma_) (l:=[(up4_,sub uma_ [1,0,1,0])]) uyh_ Tryz.func24 ⟨⟨by kernel_rfl,ubb4_⟩,trivial⟩
def um3_:FSpec:=⟨[.val (.slice .str),.val .str],[.val .bool],ud3_,true⟩
def uwl_:List (Nat×FSpec):=[(24,uk8_)]
theorem u70_:FsOK Tryz.prog uwl_:=⟨urr_,trivial⟩
def ubgp_:Env:=mkE uwl_ [] [] true
theorem u9d_:EnvOK Tryz.prog true ubgp_:=enk u70_
def ubgq_:Code:=u4_ Tryz.f9
theorem uwm_:um_ Tryz.prog 9∧FunOK Tryz.prog 9 um3_ :=
 fnk (c:=ubgq_) (l:=[]) u9d_ Tryz.func9 trivial
def up5_:FSpec:=⟨[.val ZZ11],[.val .bool],uja_,true⟩
def u0e_:List (Nat×FSpec):=[(9,um3_),(328,u7z_)]
theorem ubb5_:FsOK Tryz.prog u0e_:=⟨uwm_,ubl7_,trivial⟩
def ubl8_:Env:=mkE u0e_ [] [] true
theorem ubd7_:EnvOK Tryz.prog true ubl8_:=enk ubb5_
def ubl9_:Code:=u4_ Tryz.f326
theorem u0f_:um_ Tryz.prog 326∧FunOK Tryz.prog 326 up5_ :=
 fnk (c:=ubl9_) (l:=[]) ubd7_ Tryz.func326 trivial
def uba0_:FSpec:=⟨[.val ZZ11],[.val .str],uq8_,false⟩
def uba1_:List (Nat×FSpec):=[(24,uk8_),(160,uec_),(161,ueb_),(326,up5_),(328,u7z_)]
theorem ubma_:FsOK Tryz.prog uba1_:=⟨urr_,ueq_,uep_,u0f_,ubl7_,trivial⟩
def ubwu_:Env:=mkE uba1_ [] [] false
theorem uboq_:EnvOK Tryz.prog false ubwu_:=enk ubma_
def ubwv_:Code:=u4_ Tryz.f327
theorem ubuh_:um_ Tryz.prog 327∧FunOK Tryz.prog 327 uba0_ :=
 fnk (c:=ubwv_) (l:=[]) uboq_ Tryz.func327 trivial
def uoo_:FSpec:=⟨[.val (.agg (.slice ZZ11))],[.val .str],uil_,false⟩
def uyi_:List (Nat×FSpec):=[(126,uk6_),(161,ueb_),(326,up5_),(327,uba0_)]
theorem u9e_:FsOK Tryz.prog uyi_:=⟨uri_,uep_,u0f_,ubuh_,trivial⟩
def um4_:CSpec:=⟨⟨[3,4,8,9,10],[.val .str,.val (.int .i64),.val (.slice ZZ11),.val (.int .i64),.val (.int .i64)]⟩,[((.exit 0),⟨[3],[.val .str]⟩)],([3,4,6]++seg 10 31),un7_,[]⟩
def ubjj_:Env:=mkE uyi_ [(0,um4_)] [] false
theorem uus_:EnvOK Tryz.prog false ubjj_:=enk u9e_
def uju_:Code:=u4_ Tryz.f324
theorem u71_:CutOK Tryz.prog false Tryz.f324.ntmps um4_ (sub uju_ [1,1,0,1,0]) :=
 lok (body:=sub uju_ [1,1,0,1,0,0]) (n:=1) (l:=[]) uus_ trivial
theorem uyj_:um_ Tryz.prog 324∧FunOK Tryz.prog 324 uoo_ :=
 fnk (c:=uju_) (l:=[(um4_,sub uju_ [1,1,0,1,0])]) uus_ Tryz.func324 ⟨⟨by kernel_rfl,u71_⟩,trivial⟩
def uvz_:FSpec:=⟨[.val (.agg (.int .i64))],[.val .str],uo1_,false⟩
def u72_:List (Nat×FSpec):=[(160,uec_)]
theorem ubjk_:FsOK Tryz.prog u72_:=⟨ueq_,trivial⟩
def ubui_:Env:=mkE u72_ [] [] false
theorem ubmb_:EnvOK Tryz.prog false ubui_:=enk ubjk_
def ubuj_:Code:=u4_ Tryz.f330
theorem u73_:um_ Tryz.prog 330∧FunOK Tryz.prog 330 uvz_ :=
 fnk (c:=ubuj_) (l:=[]) ubmb_ Tryz.func330 trivial
def ubuk_:FSpec:=⟨[.val (.int .i64),.val .str],[.val .str,.val (.int .i64)],ubnk_,false⟩
def ubul_:List (Nat×FSpec):=[(31,u12_),(300,utu_),(307,urp_),(315,utv_),(324,uoo_),(330,uvz_)]
theorem ubyx_:FsOK Tryz.prog ubul_:=⟨ubbs_,u5d_,u22_,u5f_,uyj_,u73_,trivial⟩
def ub68_:Env:=mkE ubul_ [] [] false
theorem ub1m_:EnvOK Tryz.prog false ub68_:=enk ubyx_
def ub69_:Code:=u4_ Tryz.f26
theorem ub5l_:um_ Tryz.prog 26∧FunOK Tryz.prog 26 ubuk_ :=
 fnk (c:=ub69_) (l:=[]) ub1m_ Tryz.func26 trivial
def ufc_:FSpec:=⟨[.io 128 ZZ3,.val (.int .i64),.val (.int .i64),.hof false ZZ22 (.int .i64)],[],ubl_,false⟩
def ufd_:List (Nat×FSpec):=[]
theorem uk9_:FsOK Tryz.prog ufd_:=trivial
def uci_:CSpec:=⟨⟨[0,1,3,9],[.own 128 ZZ3 true,.val (.int .i64),.hof false ZZ22 (.int .i64),.val (.int .i64)]⟩,[((.exit 2),⟨[0],[.own 128 ZZ3 true]⟩)],([9]++seg 18 35),ucm_,[]⟩
def ucj_:CSpec:=⟨⟨[0,1,2,3,8],[.own 128 ZZ3 true,.val (.int .i64),.val (.int .i64),.hof false ZZ22 (.int .i64),.val (.int .i64)]⟩,[((.exit 0),⟨[0],[.own 128 ZZ3 true]⟩)],([8,9]++seg 12 41),ucn_,[]⟩
def unj_:Env:=mkE ufd_ [(2,uci_),(0,ucj_)] [] false
theorem ucg_:EnvOK Tryz.prog false unj_:=enk uk9_
def u6_:Code:=u4_ Tryz.f212
theorem uka_:CutOK Tryz.prog false Tryz.f212.ntmps uci_ (sub u6_ [1,0,0,1,0,0,1,0]) :=
 lok (body:=sub u6_ [1,0,0,1,0,0,1,0,0]) (n:=3) (l:=[]) ucg_ trivial
theorem ukb_:CutOK Tryz.prog false Tryz.f212.ntmps ucj_ (sub u6_ [1,0]) :=
 lok (body:=sub u6_ [1,0,0]) (n:=1) (l:=[(uci_,sub u6_ [1,0,0,1,0,0,1,0])]) ucg_ ⟨⟨by kernel_rfl,uka_⟩,trivial⟩
theorem um5_:um_ Tryz.prog 212∧FunOK Tryz.prog 212 ufc_ :=
 fnk (c:=u6_) (l:=[(ucj_,sub u6_ [1,0])]) ucg_ Tryz.func212 ⟨⟨by kernel_rfl,ukb_⟩,trivial⟩
def ugn_:FSpec:=⟨[.io 128 ZZ3,.val (.int .i64),.val (.int .i64),.val (.int .i64),.hof false ZZ22 (.int .i64)],[],ubh_,true⟩
def ugo_:List (Nat×FSpec):=[]
theorem unk_:FsOK Tryz.prog ugo_:=trivial
def uc7_:CSpec:=⟨⟨[0,1,2,3,10],[.own 128 ZZ3 true,.val (.int .i64),.val (.int .i64),.val (.int .i64),.val (.int .i64)]⟩,[((.exit 0),⟨[0],[.own 128 ZZ3 true]⟩)],(seg 10 28),udm_,[]⟩
def uqw_:Env:=mkE ugo_ [(0,uc7_)] [] true
theorem uga_:EnvOK Tryz.prog true uqw_:=enk unk_
def ub8_:Code:=u4_ Tryz.f265
theorem um6_:CutOK Tryz.prog true Tryz.f265.ntmps uc7_ (sub ub8_ [1,0]) :=
 lok (body:=sub ub8_ [1,0,0]) (n:=1) (l:=[]) uga_ trivial
theorem up6_:um_ Tryz.prog 265∧FunOK Tryz.prog 265 ugn_ :=
 fnk (c:=ub8_) (l:=[(uc7_,sub ub8_ [1,0])]) uga_ Tryz.func265 ⟨⟨by kernel_rfl,um6_⟩,trivial⟩
def uia_:FSpec:=⟨[.io 128 ZZ3,.val (.int .i64),.val (.int .i64),.val (.int .i64),.hof false ZZ22 (.int .i64)],[],uc1_,true⟩
def uib_:List (Nat×FSpec):=[(265,ugn_)]
theorem up7_:FsOK Tryz.prog uib_:=⟨up6_,trivial⟩
def ud7_:CSpec:=⟨⟨[0,2,4,10,11],[.own 128 ZZ3 true,.val (.int .i64),.hof false ZZ22 (.int .i64),.val (.int .i64),.val (.int .i64)]⟩,[((.exit 0),⟨[0,10],[.own 128 ZZ3 true,.val (.int .i64)]⟩)],([10,11]++seg 18 32),uef_,[]⟩
def utw_:Env:=mkE uib_ [(0,ud7_)] [] true
theorem ug7_:EnvOK Tryz.prog true utw_:=enk up7_
def uck_:Code:=u4_ Tryz.f243
theorem uo8_:CutOK Tryz.prog true Tryz.f243.ntmps ud7_ (sub uck_ [1,1,0,0]) :=
 lok (body:=sub uck_ [1,1,0,0,0]) (n:=1) (l:=[]) ug7_ trivial
theorem usj_:um_ Tryz.prog 243∧FunOK Tryz.prog 243 uia_ :=
 fnk (c:=uck_) (l:=[(ud7_,sub uck_ [1,1,0,0])]) ug7_ Tryz.func243 ⟨⟨by kernel_rfl,uo8_⟩,trivial⟩
def ul_ (n:Nat):FSpec:=⟨[.io 128 ZZ3,.val (.int .i64),.val (.int .i64),.val (.int .i64),.hof false ZZ22 (.int .i64)],[],uo_ n,false⟩
def ug8_:FSpec:=⟨[.io 128 ZZ3,.val (.int .i64),.val (.int .i64),.val (.int .i64),.hof false ZZ22 (.int .i64)],[],ubt_,false⟩
def ug9_ (n:Nat):List (Nat×FSpec):=[(213,(ul_ n)),(243,uia_)]
theorem uop_ (n:Nat) (ih:um_ Tryz.prog 213∧FunOK Tryz.prog 213 (ul_ n)):FsOK Tryz.prog (ug9_ n):=⟨ih,usj_,trivial⟩
def udp_ (n:Nat):CSpec:=⟨⟨[0,1,4,10,11],[.own 128 ZZ3 true,.val (.int .i64),.hof false ZZ22 (.int .i64),.val (.int .i64),.val (.int .i64)]⟩,[((.exit 0),⟨[0,10],[.own 128 ZZ3 true,.val (.int .i64)]⟩)],([10,11,12]++seg 31 23),(udy_ (uo_ n)),[]⟩
def udq_ (n:Nat):CSpec:=⟨⟨[0,10,13],[.own 128 ZZ3 true,.val (.int .i64),.val (.int .i64)]⟩,[((.exit 2),⟨[0],[.own 128 ZZ3 true]⟩)],([13]++seg 55 22),(udz_ (uo_ n)),[]⟩
def udr_ (n:Nat):CSpec:=⟨⟨[0,2,4,14,15],[.own 128 ZZ3 true,.val (.int .i64),.hof false ZZ22 (.int .i64),.val (.int .i64),.val (.int .i64)]⟩,[((.exit 4),⟨[0,14],[.own 128 ZZ3 true,.val (.int .i64)]⟩)],([14,15,16]++seg 83 24),(ud0_ (uo_ n)),[]⟩
def uc8_ (n:Nat):CSpec:=⟨⟨[0,14,17],[.own 128 ZZ3 true,.val (.int .i64),.val (.int .i64)]⟩,[((.exit 6),⟨[0],[.own 128 ZZ3 true]⟩)],([17]++seg 108 21),(udn_ (uo_ n)),[]⟩
def uc9_ (n:Nat):CSpec:=⟨⟨[1,2,3,18,19,140],[.val (.int .i64),.val (.int .i64),.val (.int .i64),.val (.int .i64),.val (.int .i64),.val .bool]⟩,[(.normal,⟨[20,21],[.val (.int .i64),.val (.int .i64)]⟩)],[20,21,141,142,143,144,145,146],(ub0_ (uo_ n)),[]⟩
def uda_ (n:Nat):CSpec:=⟨⟨[0,4,20,21,22],[.own 128 ZZ3 true,.hof false ZZ22 (.int .i64),.val (.int .i64),.val (.int .i64),.val (.int .i64)]⟩,[((.exit 8),⟨[0,20],[.own 128 ZZ3 true,.val (.int .i64)]⟩)],([20,21,23]++seg 149 26),(udo_ (uo_ n)),[]⟩
def udb_ (n:Nat):CSpec:=⟨⟨[0,2,4,20,24,185],[.own 128 ZZ3 true,.val (.int .i64),.hof false ZZ22 (.int .i64),.val (.int .i64),.val (.int .i64),.val .bool]⟩,[(.normal,⟨[0],[.own 128 ZZ3 true]⟩)],[186,187,188,189,190,191],(ub1_ (uo_ n)),[]⟩
def udc_ (n:Nat):CSpec:=⟨⟨[0,1,4,18,20,199],[.own 128 ZZ3 true,.val (.int .i64),.hof false ZZ22 (.int .i64),.val (.int .i64),.val (.int .i64),.val .bool]⟩,[(.normal,⟨[0],[.own 128 ZZ3 true]⟩)],[200,201,202,203,204,205],(ub2_ (uo_ n)),[]⟩
def urs_ (n:Nat):Env:=mkE (ug9_ n) [(1,(udp_ n)),(4,(udq_ n)),(7,(udr_ n)),(10,(uc8_ n)),(12,(uc9_ n)),(13,(uda_ n)),(16,(udb_ n)),(17,(udc_ n))] [] false
theorem ux_ (n:Nat) (ih:um_ Tryz.prog 213∧FunOK Tryz.prog 213 (ul_ n)):EnvOK Tryz.prog false (urs_ n):=enk (uop_ n ih)
def ud_:Code:=u4_ Tryz.f213
theorem unl_ (n:Nat) (ih:um_ Tryz.prog 213∧FunOK Tryz.prog 213 (ul_ n)):CutOK Tryz.prog false Tryz.f213.ntmps (udp_ n) (sub ud_ [0,1,0,1,1,0,0]) :=
 lok (body:=sub ud_ [0,1,0,1,1,0,0,0]) (n:=2) (l:=[]) (ux_ n ih) trivial
theorem unm_ (n:Nat) (ih:um_ Tryz.prog 213∧FunOK Tryz.prog 213 (ul_ n)):CutOK Tryz.prog false Tryz.f213.ntmps (udq_ n) (sub ud_ [0,1,0,1,1,1,0,1,0]) :=
 lok (body:=sub ud_ [0,1,0,1,1,1,0,1,0,0]) (n:=5) (l:=[]) (ux_ n ih) trivial
theorem unn_ (n:Nat) (ih:um_ Tryz.prog 213∧FunOK Tryz.prog 213 (ul_ n)):CutOK Tryz.prog false Tryz.f213.ntmps (udr_ n) (sub ud_ [1,0,1,0,1,1,0,0]) :=
 lok (body:=sub ud_ [1,0,1,0,1,1,0,0,0]) (n:=8) (l:=[]) (ux_ n ih) trivial
theorem um7_ (n:Nat) (ih:um_ Tryz.prog 213∧FunOK Tryz.prog 213 (ul_ n)):CutOK Tryz.prog false Tryz.f213.ntmps (uc8_ n) (sub ud_ [1,0,1,0,1,1,1,0,1,0]) :=
 lok (body:=sub ud_ [1,0,1,0,1,1,1,0,1,0,0]) (n:=11) (l:=[]) (ux_ n ih) trivial
theorem um8_ (n:Nat) (ih:um_ Tryz.prog 213∧FunOK Tryz.prog 213 (ul_ n)):CutOK Tryz.prog false Tryz.f213.ntmps (uc9_ n) (sub ud_ [1,1,1,1,1,0,1]) :=
 brk (c:=uqv_ (sub ud_ [1,1,1,1,1,0,1])) (x:=sub ud_ [1,1,1,1,1,0,1,0]) (y:=sub ud_ [1,1,1,1,1,0,1,1]) (n:=12) (lx:=[]) (ly:=[]) (ux_ n ih) trivial trivial
theorem um9_ (n:Nat) (ih:um_ Tryz.prog 213∧FunOK Tryz.prog 213 (ul_ n)):CutOK Tryz.prog false Tryz.f213.ntmps (uda_ n) (sub ud_ [1,1,1,1,1,1,1,0,0]) :=
 lok (body:=sub ud_ [1,1,1,1,1,1,1,0,0,0]) (n:=14) (l:=[]) (ux_ n ih) trivial
theorem una_ (n:Nat) (ih:um_ Tryz.prog 213∧FunOK Tryz.prog 213 (ul_ n)):CutOK Tryz.prog false Tryz.f213.ntmps (udb_ n) (sub ud_ [1,1,1,1,1,1,1,1,1,0,1]) :=
 brk (c:=uqv_ (sub ud_ [1,1,1,1,1,1,1,1,1,0,1])) (x:=sub ud_ [1,1,1,1,1,1,1,1,1,0,1,0]) (y:=sub ud_ [1,1,1,1,1,1,1,1,1,0,1,1]) (n:=16) (lx:=[]) (ly:=[]) (ux_ n ih) trivial trivial
theorem unb_ (n:Nat) (ih:um_ Tryz.prog 213∧FunOK Tryz.prog 213 (ul_ n)):CutOK Tryz.prog false Tryz.f213.ntmps (udc_ n) (sub ud_ [1,1,1,1,1,1,1,1,1,1,0,1]) :=
 brk (c:=uqv_ (sub ud_ [1,1,1,1,1,1,1,1,1,1,0,1])) (x:=sub ud_ [1,1,1,1,1,1,1,1,1,1,0,1,0]) (y:=sub ud_ [1,1,1,1,1,1,1,1,1,1,0,1,1]) (n:=17) (lx:=[]) (ly:=[]) (ux_ n ih) trivial trivial
theorem uo9_ (n:Nat) (ih:um_ Tryz.prog 213∧FunOK Tryz.prog 213 (ul_ n)):um_ Tryz.prog 213∧FunOK Tryz.prog 213 (ul_ (n+1)) :=
 fnk (c:=ud_) (l:=[((udp_ n),sub ud_ [0,1,0,1,1,0,0]),((udq_ n),sub ud_ [0,1,0,1,1,1,0,1,0]),((udr_ n),sub ud_ [1,0,1,0,1,1,0,0]),((uc8_ n),sub ud_ [1,0,1,0,1,1,1,0,1,0]),((uc9_ n),sub ud_ [1,1,1,1,1,0,1]),((uda_ n),sub ud_ [1,1,1,1,1,1,1,0,0]),((udb_ n),sub ud_ [1,1,1,1,1,1,1,1,1,0,1]),((udc_ n),sub ud_ [1,1,1,1,1,1,1,1,1,1,0,1])]) (ux_ n ih) Tryz.func213 ⟨⟨by kernel_rfl,(unl_ n ih)⟩,⟨by kernel_rfl,(unm_ n ih)⟩,⟨by kernel_rfl,(unn_ n ih)⟩,⟨by kernel_rfl,(um7_ n ih)⟩,⟨by kernel_rfl,(um8_ n ih)⟩,⟨by kernel_rfl,(um9_ n ih)⟩,⟨by kernel_rfl,(una_ n ih)⟩,⟨by kernel_rfl,(unb_ n ih)⟩,trivial⟩
theorem upa_:∀ n,um_ Tryz.prog 213∧FunOK Tryz.prog 213 (ul_ n):=fun n=>Nat.rec ⟨⟨Tryz.f213,ud_,Tryz.func213,by kernel_rfl,by kernel_rfl⟩,fun w I v args bs _ _ _ r hr=>by cases hr⟩ (fun n ih=>uo9_ n ih) n
theorem uqx_:um_ Tryz.prog 213∧FunOK Tryz.prog 213 ug8_:=upa_ 100
def uic_:FSpec:=⟨[.io 128 ZZ3,.val (.int .i64),.hof false ZZ22 (.int .i64)],[],uc2_,false⟩
def uid_:List (Nat×FSpec):=[(212,ufc_),(213,ug8_)]
theorem up8_:FsOK Tryz.prog uid_:=⟨um5_,uqx_,trivial⟩
def ud8_:CSpec:=⟨⟨[0,1,2,6,7,8],[.own 128 ZZ3 true,.val (.int .i64),.hof false ZZ22 (.int .i64),.val (.int .i64),.val (.int .i64),.val (.int .i64)]⟩,[((.exit 0),⟨[0,7],[.own 128 ZZ3 true,.val (.int .i64)]⟩)],([7,8]++seg 11 12),ueg_,[]⟩
def ud9_:CSpec:=⟨⟨[0,1,2,6,7,8],[.own 128 ZZ3 true,.val (.int .i64),.hof false ZZ22 (.int .i64),.val (.int .i64),.val (.int .i64),.val (.int .i64)]⟩,[((.exit 4),⟨[0,7],[.own 128 ZZ3 true,.val (.int .i64)]⟩)],([7,8]++seg 33 16),ueh_,[]⟩
def uea_:CSpec:=⟨⟨[0,1,2,6],[.own 128 ZZ3 true,.val (.int .i64),.hof false ZZ22 (.int .i64),.val (.int .i64)]⟩,[((.exit 2),⟨[0],[.own 128 ZZ3 true]⟩)],([6,7,8,9]++seg 28 35),uei_,[]⟩
def utx_:Env:=mkE uid_ [(0,ud8_),(4,ud9_),(2,uea_)] [] false
theorem ub9_:EnvOK Tryz.prog false utx_:=enk up8_
def u0_:Code:=u4_ Tryz.f162
theorem upb_:CutOK Tryz.prog false Tryz.f162.ntmps ud8_ (sub u0_ [1,1,0,0]) :=
 lok (body:=sub u0_ [1,1,0,0,0]) (n:=1) (l:=[]) ub9_ trivial
theorem upc_:CutOK Tryz.prog false Tryz.f162.ntmps ud9_ (sub u0_ [1,1,1,1,0,0,1,0,1,0,0]) :=
 lok (body:=sub u0_ [1,1,1,1,0,0,1,0,1,0,0,0]) (n:=5) (l:=[]) ub9_ trivial
theorem upd_:CutOK Tryz.prog false Tryz.f162.ntmps uea_ (sub u0_ [1,1,1,1,0]) :=
 lok (body:=sub u0_ [1,1,1,1,0,0]) (n:=3) (l:=[(ud9_,sub u0_ [1,1,1,1,0,0,1,0,1,0,0])]) ub9_ ⟨⟨by kernel_rfl,upc_⟩,trivial⟩
theorem usk_:um_ Tryz.prog 162∧FunOK Tryz.prog 162 uic_ :=
 fnk (c:=u0_) (l:=[(ud8_,sub u0_ [1,1,0,0]),(uea_,sub u0_ [1,1,1,1,0])]) ub9_ Tryz.func162 ⟨⟨by kernel_rfl,upb_⟩,⟨by kernel_rfl,upd_⟩,trivial⟩
def uhk_:FSpec:=⟨[.io 128 ZZ3,.hof false ZZ22 (.int .i64)],[],ucs_,false⟩
def uhl_:List (Nat×FSpec):=[(162,uic_)]
theorem upe_:FsOK Tryz.prog uhl_:=⟨usk_,trivial⟩
def usl_:Env:=mkE uhl_ [] [] false
theorem up9_:EnvOK Tryz.prog false usl_:=enk upe_
def usm_:Code:=u4_ Tryz.f101
theorem urt_:um_ Tryz.prog 101∧FunOK Tryz.prog 101 uhk_ :=
 fnk (c:=usm_) (l:=[]) up9_ Tryz.func101 trivial
def ubmc_:FSpec:=⟨[.val (.int .i64)],[.val .bool],ubab_,true⟩
def ubmd_:List (Nat×FSpec):=[]
theorem ubum_:FsOK Tryz.prog ubmd_:=trivial
def ub23_:Env:=mkE ubmd_ [] [] true
theorem ubww_:EnvOK Tryz.prog true ub23_:=enk ubum_
def ub24_:Code:=u4_ Tryz.f130
theorem ub1n_:um_ Tryz.prog 130∧FunOK Tryz.prog 130 ubmc_ :=
 fnk (c:=ub24_) (l:=[]) ubww_ Tryz.func130 trivial
def usn_:FSpec:=⟨[.val (.int .i64),.val (.int .i64)],[.val (.int .i64)],ui1_,true⟩
def ubd8_:List (Nat×FSpec):=[(130,ubmc_)]
theorem ubor_:FsOK Tryz.prog ubd8_:=⟨ub1n_,trivial⟩
def ubyy_:Env:=mkE ubd8_ [] [] true
theorem ubrv_:EnvOK Tryz.prog true ubyy_:=enk ubor_
def ubyz_:Code:=u4_ Tryz.f78
theorem u1g_:um_ Tryz.prog 78∧FunOK Tryz.prog 78 usn_ :=
 fnk (c:=ubyz_) (l:=[]) ubrv_ Tryz.func78 trivial
def ubme_:FSpec:=⟨[.val ZZ12],[.val (.int .i64)],ubko_,true⟩
def ubx4_:List (Nat×FSpec):=[]
theorem ub1o_:FsOK Tryz.prog ubx4_:=trivial
def ubgr_:CSpec:=⟨⟨[3,6,7,8],[.val (.int .i64),.val ZZ12,.val (.int .i64),.val (.int .i64)]⟩,[((.exit 0),⟨[],[]⟩),(.ret,⟨[2],[.val (.int .i64)]⟩)],([2,5]++seg 8 9),ubkn_,[]⟩
def ub8v_:Env:=mkE ubx4_ [(0,ubgr_)] [] true
theorem ubqi_:EnvOK Tryz.prog true ub8v_:=enk ub1o_
def ubgs_:Code:=u4_ Tryz.f77
theorem uby0_:CutOK Tryz.prog true Tryz.f77.ntmps ubgr_ (sub ubgs_ [1,1,0,1,0]) :=
 lok (body:=sub ubgs_ [1,1,0,1,0,0]) (n:=1) (l:=[]) ubqi_ trivial
theorem ubx5_:um_ Tryz.prog 77∧FunOK Tryz.prog 77 ubme_ :=
 fnk (c:=ubgs_) (l:=[(ubgr_,sub ubgs_ [1,1,0,1,0])]) ubqi_ Tryz.func77 ⟨⟨by kernel_rfl,uby0_⟩,trivial⟩
def u24_:FSpec:=⟨[.val ZZ3,.val ZZ3],[.val (.int .i64)],uqh_,true⟩
def u25_:List (Nat×FSpec):=[(34,ugd_),(77,ubme_),(78,usn_)]
theorem ubd9_:FsOK Tryz.prog u25_:=⟨uim_,ubx5_,u1g_,trivial⟩
def ubos_:Env:=mkE u25_ [] [] true
theorem ubgt_:EnvOK Tryz.prog true ubos_:=enk ubd9_
def ubot_:Code:=u4_ Tryz.f102
theorem ubmf_:um_ Tryz.prog 102∧FunOK Tryz.prog 102 u24_ :=
 fnk (c:=ubot_) (l:=[]) ubgt_ Tryz.func102 trivial
def uba2_:FSpec:=⟨[.val (.agg ZZ4)],[.val (.slice ZZ3)],uxj_,false⟩
def uba3_:List (Nat×FSpec):=[(26,ubuk_),(52,urn_),(100,ubh9_),(101,uhk_),(102,u24_)]
theorem ubmg_:FsOK Tryz.prog uba3_:=⟨ub5l_,uyd_,ubyu_,urt_,ubmf_,trivial⟩
def uv0_:CSpec:=⟨⟨[1,3,8,9,10],[.box (.val ZZ4),.own 128 ZZ3 true,.val ZZ15,.val (.int .i64),.val (.int .i64)]⟩,[((.exit 0),⟨[3],[.own 128 ZZ3 true]⟩)],([3,5,6]++seg 10 37),uxi_,[]⟩
def ubwx_:Env:=mkE uba3_ [(0,uv0_)] [] false
theorem u5g_:EnvOK Tryz.prog false ubwx_:=enk ubmg_
def uso_:Code:=u4_ Tryz.f61
theorem ubjl_:CutOK Tryz.prog false Tryz.f61.ntmps uv0_ (sub uso_ [1,1,0,1,0]) :=
 lok (body:=sub uso_ [1,1,0,1,0,0]) (n:=1) (l:=[]) u5g_ trivial
theorem ubun_:um_ Tryz.prog 61∧FunOK Tryz.prog 61 uba2_ :=
 fnk (c:=uso_) (l:=[(uv0_,sub uso_ [1,1,0,1,0])]) u5g_ Tryz.func61 ⟨⟨by kernel_rfl,ubjl_⟩,trivial⟩
def ubib_:FSpec:=⟨[.val (.agg ZZ4)],[.val (.slice ZZ7)],u51_,false⟩
def ubic_:List (Nat×FSpec):=[(52,urn_),(61,uba2_)]
theorem ubrw_:FsOK Tryz.prog ubic_:=⟨uyd_,ubun_,trivial⟩
def u1h_:CSpec:=⟨⟨[3,4,5,15,16,17],[.own 114 ZZ7 false,.val .bool,.box (.val ZZ20),.val (.slice ZZ3),.val (.int .i64),.val (.int .i64)]⟩,[((.exit 0),⟨[3,4,5],[.own 114 ZZ7 false,.val .bool,.box (.val ZZ20)]⟩)],([3,4,7,8]++seg 17 39),u3t_,[]⟩
def u1i_:CSpec:=⟨⟨[3,5,56],[.own 114 ZZ7 false,.box (.val ZZ20),.val .bool]⟩,[(.normal,⟨[3],[.own 114 ZZ7 false]⟩)],[3,57,58,59,60,61],uu5_,[]⟩
def u1j_:CSpec:=⟨⟨[1,3,63,64,65],[.box (.val ZZ4),.own 114 ZZ7 false,.val (.slice .str),.val (.int .i64),.val (.int .i64)]⟩,[((.exit 3),⟨[3],[.own 114 ZZ7 false]⟩)],([3,10,11,12,13]++seg 65 20),u3u_,[]⟩
def ub1p_:Env:=mkE ubic_ [(0,u1h_),(5,u1i_),(6,u1j_)] [] false
theorem uqq_:EnvOK Tryz.prog false ub1p_:=enk ubrw_
def udd_:Code:=u4_ Tryz.f29
theorem ubou_:CutOK Tryz.prog false Tryz.f29.ntmps u1h_ (sub udd_ [1,1,1,1,0,1,0]) :=
 lok (body:=sub udd_ [1,1,1,1,0,1,0,0]) (n:=1) (l:=[]) uqq_ trivial
theorem ubov_:CutOK Tryz.prog false Tryz.f29.ntmps u1i_ (sub udd_ [1,1,1,1,1,0,1]) :=
 brk (c:=uqv_ (sub udd_ [1,1,1,1,1,0,1])) (x:=sub udd_ [1,1,1,1,1,0,1,0]) (y:=sub udd_ [1,1,1,1,1,0,1,1]) (n:=5) (lx:=[]) (ly:=[]) uqq_ trivial trivial
theorem ubow_:CutOK Tryz.prog false Tryz.f29.ntmps u1j_ (sub udd_ [1,1,1,1,1,1,0,1,0]) :=
 lok (body:=sub udd_ [1,1,1,1,1,1,0,1,0,0]) (n:=7) (l:=[]) uqq_ trivial
theorem uby1_:um_ Tryz.prog 29∧FunOK Tryz.prog 29 ubib_ :=
 fnk (c:=udd_) (l:=[(u1h_,sub udd_ [1,1,1,1,0,1,0]),(u1i_,sub udd_ [1,1,1,1,1,0,1]),(u1j_,sub udd_ [1,1,1,1,1,1,0,1,0])]) uqq_ Tryz.func29 ⟨⟨by kernel_rfl,ubou_⟩,⟨by kernel_rfl,ubov_⟩,⟨by kernel_rfl,ubow_⟩,trivial⟩
def u5h_:FSpec:=⟨[.val (.int .i64),.val (.agg ZZ20)],[.val .str,.val (.int .i64)],umm_,false⟩
def u5i_:List (Nat×FSpec):=[(31,u12_),(299,upz_),(300,utu_),(306,uof_),(307,urp_),(314,up2_),(315,utv_),(323,uln_),(324,uoo_),(329,urm_),(330,uvz_)]
theorem ubgu_:FsOK Tryz.prog u5i_:=⟨ubbs_,uz3_,u5d_,uyb_,u22_,uz8_,u5f_,uup_,uyj_,u2y_,u73_,trivial⟩
def ubrx_:Env:=mkE u5i_ [] [] false
theorem ubjm_:EnvOK Tryz.prog false ubrx_:=enk ubgu_
def ubry_:Code:=u4_ Tryz.f54
theorem ubox_:um_ Tryz.prog 54∧FunOK Tryz.prog 54 u5h_ :=
 fnk (c:=ubry_) (l:=[]) ubjm_ Tryz.func54 trivial
def ubea_:FSpec:=⟨[.val (.agg ZZ20),.val .str],[.val ZZ5],u1w_,true⟩
def ubeb_:List (Nat×FSpec):=[]
theorem uboy_:FsOK Tryz.prog ubeb_:=trivial
def uby2_:Env:=mkE ubeb_ [] [] true
theorem ubrz_:EnvOK Tryz.prog true uby2_:=enk uboy_
def uby3_:Code:=u4_ Tryz.f55
theorem ubwy_:um_ Tryz.prog 55∧FunOK Tryz.prog 55 ubea_ :=
 fnk (c:=uby3_) (l:=[]) ubrz_ Tryz.func55 trivial
def uba4_:FSpec:=⟨[.val (.agg ZZ20),.val .str],[.val ZZ5],uxk_,true⟩
def uba5_:List (Nat×FSpec):=[]
theorem ubmh_:FsOK Tryz.prog uba5_:=trivial
def ubwz_:Env:=mkE uba5_ [] [] true
theorem uboz_:EnvOK Tryz.prog true ubwz_:=enk ubmh_
def ubw0_:Code:=u4_ Tryz.f56
theorem ubuo_:um_ Tryz.prog 56∧FunOK Tryz.prog 56 uba4_ :=
 fnk (c:=ubw0_) (l:=[]) uboz_ Tryz.func56 trivial
def uty_:FSpec:=⟨[.val ZZ5,.val ZZ5],[.val (.int .i64)],ufb_,true⟩
def u5j_:List (Nat×FSpec):=[(34,ugd_),(78,usn_)]
theorem ubgv_:FsOK Tryz.prog u5j_:=⟨uim_,u1g_,trivial⟩
def ubr0_:Env:=mkE u5j_ [] [] true
theorem ubjn_:EnvOK Tryz.prog true ubr0_:=enk ubgv_
def ubr1_:Code:=u4_ Tryz.f57
theorem u5k_:um_ Tryz.prog 57∧FunOK Tryz.prog 57 uty_ :=
 fnk (c:=ubr1_) (l:=[]) ubjn_ Tryz.func57 trivial
def uba6_:FSpec:=⟨[.val ZZ18,.val ZZ18],[.val (.int .i64)],uf5_,true⟩
def uba7_:List (Nat×FSpec):=[(57,uty_)]
theorem ubmi_:FsOK Tryz.prog uba7_:=⟨u5k_,trivial⟩
def ubw1_:Env:=mkE uba7_ [] [] true
theorem ubo0_:EnvOK Tryz.prog true ubw1_:=enk ubmi_
def ubw2_:Code:=u4_ Tryz.f59
theorem ubup_:um_ Tryz.prog 59∧FunOK Tryz.prog 59 uba6_ :=
 fnk (c:=ubw2_) (l:=[]) ubo0_ Tryz.func59 trivial
def u0g_:FSpec:=⟨[.val ZZ18],[.val (.int .i64),.val (.int .i64),.val .bool],un8_,false⟩
def u0h_:List (Nat×FSpec):=[(103,ucl_)]
theorem ubb6_:FsOK Tryz.prog u0h_:=⟨uc6_,trivial⟩
def uoq_:CSpec:=⟨⟨[1,5,10],[.box (.val (.prod ZZ5 ZZ5)),.val (.int .i64),.val .bool]⟩,[(.normal,⟨[1,5],[.box (.val (.prod ZZ5 ZZ5)),.val (.int .i64)]⟩)],([5]++seg 11 12),ujq_,[]⟩
def ubmj_:Env:=mkE u0h_ [(0,uoq_)] [] false
theorem uwn_:EnvOK Tryz.prog false ubmj_:=enk ubb6_
def ufe_:Code:=u4_ Tryz.f159
theorem u9f_:CutOK Tryz.prog false Tryz.f159.ntmps uoq_ (sub ufe_ [1,1,0,1]) :=
 brk (c:=uqv_ (sub ufe_ [1,1,0,1])) (x:=sub ufe_ [1,1,0,1,0]) (y:=sub ufe_ [1,1,0,1,1]) (n:=0) (lx:=[]) (ly:=[]) uwn_ trivial trivial
theorem ubjo_:um_ Tryz.prog 159∧FunOK Tryz.prog 159 u0g_ :=
 fnk (c:=ufe_) (l:=[(uoq_,sub ufe_ [1,1,0,1])]) uwn_ Tryz.func159 ⟨⟨by kernel_rfl,u9f_⟩,trivial⟩
def ubid_:FSpec:=⟨[.val (.slice ZZ18)],[.val (.slice ZZ18)],u52_,false⟩
def ubie_:List (Nat×FSpec):=[(159,u0g_),(160,uec_),(161,ueb_)]
theorem ubr2_:FsOK Tryz.prog ubie_:=⟨ubjo_,ueq_,uep_,trivial⟩
def u1k_:CSpec:=⟨⟨[8,10,27],[.val (.int .i64),.box (.val (.prod (.int .i64) (.prod .str (.prod .bool .str)))),.val .bool]⟩,[(.normal,⟨[10],[.box (.val (.prod (.int .i64) (.prod .str (.prod .bool .str))))]⟩)],[28,29,30,31,32],uu6_,[]⟩
def u1l_:CSpec:=⟨⟨[3,4,11,12,13],[.own 120 ZZ18 true,.val (.int .i64),.val (.slice ZZ18),.val (.int .i64),.val (.int .i64)]⟩,[((.exit 0),⟨[3],[.own 120 ZZ18 true]⟩)],([3,4,6,7,8,9,10]++seg 13 48),u3v_,[]⟩
def ub1q_:Env:=mkE ubie_ [(3,u1k_),(0,u1l_)] [] false
theorem uyk_:EnvOK Tryz.prog false ub1q_:=enk ubr2_
def ugb_:Code:=u4_ Tryz.f99
theorem ubo1_:CutOK Tryz.prog false Tryz.f99.ntmps u1k_ (sub ugb_ [1,1,1,0,1,0,0,1,1,0,0,1,1,1,1,0,1]) :=
 brk (c:=uqv_ (sub ugb_ [1,1,1,0,1,0,0,1,1,0,0,1,1,1,1,0,1])) (x:=sub ugb_ [1,1,1,0,1,0,0,1,1,0,0,1,1,1,1,0,1,0]) (y:=sub ugb_ [1,1,1,0,1,0,0,1,1,0,0,1,1,1,1,0,1,1]) (n:=3) (lx:=[]) (ly:=[]) uyk_ trivial trivial
theorem ubo2_:CutOK Tryz.prog false Tryz.f99.ntmps u1l_ (sub ugb_ [1,1,1,0,1,0]) :=
 lok (body:=sub ugb_ [1,1,1,0,1,0,0]) (n:=1) (l:=[(u1k_,sub ugb_ [1,1,1,0,1,0,0,1,1,0,0,1,1,1,1,0,1])]) uyk_ ⟨⟨by kernel_rfl,ubo1_⟩,trivial⟩
theorem uby4_:um_ Tryz.prog 99∧FunOK Tryz.prog 99 ubid_ :=
 fnk (c:=ugb_) (l:=[(u1l_,sub ugb_ [1,1,1,0,1,0])]) uyk_ Tryz.func99 ⟨⟨by kernel_rfl,ubo2_⟩,trivial⟩
def ubqj_:FSpec:=⟨[.val (.int .i64),.val (.slice ZZ18)],[.val (.agg ZZ16),.val (.int .i64)],ubff_,false⟩
def ubqk_:List (Nat×FSpec):=[(99,ubid_)]
theorem ubw3_:FsOK Tryz.prog ubqk_:=⟨uby4_,trivial⟩
def u74_:CSpec:=⟨⟨[1,11],[.val (.slice ZZ18),.val .bool]⟩,[(.normal,⟨[1],[.val (.slice ZZ18)]⟩)],[1,12,13],u1x_,[]⟩
def u75_:CSpec:=⟨⟨[8,9,29],[.box (.val (.prod ZZ5 ZZ5)),.box (.val (.prod (.agg ZZ20) (.agg ZZ20))),.val .bool]⟩,[(.normal,⟨[8,9],[.box (.val (.prod ZZ5 ZZ5)),.box (.val (.prod (.agg ZZ20) (.agg ZZ20)))]⟩)],(seg 30 9),u1y_,[]⟩
def u76_:CSpec:=⟨⟨[6,20,21,22],[.box (.pr (.val (.int .i64)) (.own 114 ZZ7 false)),.val (.slice ZZ18),.val (.int .i64),.val (.int .i64)]⟩,[((.exit 0),⟨[6],[.box (.pr (.val (.int .i64)) (.own 114 ZZ7 false))]⟩)],([8,9]++seg 22 36),ubbh_,[]⟩
def ub5m_:Env:=mkE ubqk_ [(0,u74_),(4,u75_),(2,u76_)] [19] false
theorem uva_:EnvOK Tryz.prog false ub5m_:=enk ubw3_
def udw_:Code:=u4_ Tryz.f60
theorem ubuq_:CutOK Tryz.prog false Tryz.f60.ntmps u74_ (sub udw_ [1,0,1]) :=
 brk (c:=uqv_ (sub udw_ [1,0,1])) (x:=sub udw_ [1,0,1,0]) (y:=sub udw_ [1,0,1,1]) (n:=0) (lx:=[]) (ly:=[]) uva_ trivial trivial
theorem ubur_:CutOK Tryz.prog false Tryz.f60.ntmps u75_ (sub udw_ [1,1,1,1,0,1,0,0,1,1,0,0,1,1,0,1]) :=
 brk (c:=uqv_ (sub udw_ [1,1,1,1,0,1,0,0,1,1,0,0,1,1,0,1])) (x:=sub udw_ [1,1,1,1,0,1,0,0,1,1,0,0,1,1,0,1,0]) (y:=sub udw_ [1,1,1,1,0,1,0,0,1,1,0,0,1,1,0,1,1]) (n:=4) (lx:=[]) (ly:=[]) uva_ trivial trivial
theorem ubus_:CutOK Tryz.prog false Tryz.f60.ntmps u76_ (sub udw_ [1,1,1,1,0,1,0]) :=
 lok (body:=sub udw_ [1,1,1,1,0,1,0,0]) (n:=3) (l:=[(u75_,sub udw_ [1,1,1,1,0,1,0,0,1,1,0,0,1,1,0,1])]) uva_ ⟨⟨by kernel_rfl,ubur_⟩,trivial⟩
theorem ub25_:um_ Tryz.prog 60∧FunOK Tryz.prog 60 ubqj_ :=
 fnk (c:=udw_) (l:=[(u74_,sub udw_ [1,0,1]),(u76_,sub udw_ [1,1,1,1,0,1,0])]) uva_ Tryz.func60 ⟨⟨by kernel_rfl,ubuq_⟩,⟨by kernel_rfl,ubus_⟩,trivial⟩
def ubmk_:FSpec:=⟨[.val (.int .i64),.val (.slice ZZ7)],[.val (.agg ZZ16),.val (.int .i64)],ubad_,false⟩
def ubml_:List (Nat×FSpec):=[(54,u5h_),(55,ubea_),(56,uba4_),(57,uty_),(58,uky_),(59,uba6_),(60,ubqj_)]
theorem ubut_:FsOK Tryz.prog ubml_:=⟨ubox_,ubwy_,ubuo_,u5k_,uxp_,ubup_,ub25_,trivial⟩
def u34_:CSpec:=⟨⟨[0,4,6,17,18,19],[.val (.int .i64),.box (.val ZZ16),.own 120 ZZ18 true,.val (.slice ZZ7),.val (.int .i64),.val (.int .i64)]⟩,[((.exit 0),⟨[4,6],[.box (.val ZZ16),.own 120 ZZ18 true]⟩),(.ret,⟨[4,5],[.box (.val ZZ16),.val (.int .i64)]⟩)],([5,6,8,9,10,11,12]++seg 19 46),u6y_,[]⟩
def u35_:CSpec:=⟨⟨[13,67,68,69],[.own 120 ZZ18 true,.own 120 ZZ18 true,.val (.int .i64),.val (.int .i64)]⟩,[((.exit 2),⟨[13],[.own 120 ZZ18 true]⟩)],([13,15,16]++seg 69 42),u6z_,[]⟩
def ub26_:Env:=mkE ubml_ [(0,u34_),(5,u35_)] [] false
theorem u1m_:EnvOK Tryz.prog false ub26_:=enk ubut_
def ulq_:Code:=u4_ Tryz.f28
theorem ubr3_:CutOK Tryz.prog false Tryz.f28.ntmps u34_ (sub ulq_ [1,1,0,1,0]) :=
 lok (body:=sub ulq_ [1,1,0,1,0,0]) (n:=1) (l:=[]) u1m_ trivial
theorem ubr4_:CutOK Tryz.prog false Tryz.f28.ntmps u35_ (sub ulq_ [1,1,1,1,1,0,1,0]) :=
 lok (body:=sub ulq_ [1,1,1,1,1,0,1,0,0]) (n:=6) (l:=[]) u1m_ trivial
theorem ub1r_:um_ Tryz.prog 28∧FunOK Tryz.prog 28 ubmk_ :=
 fnk (c:=ulq_) (l:=[(u34_,sub ulq_ [1,1,0,1,0]),(u35_,sub ulq_ [1,1,1,1,1,0,1,0])]) u1m_ Tryz.func28 ⟨⟨by kernel_rfl,ubr3_⟩,⟨by kernel_rfl,ubr4_⟩,trivial⟩
def uba8_:FSpec:=⟨[.val (.agg ZZ4)],[.val (.agg ZZ16),.val (.int .i64)],uxl_,false⟩
def uba9_:List (Nat×FSpec):=[(27,uwh_),(28,ubmk_),(29,ubib_)]
theorem ubmm_:FsOK Tryz.prog uba9_:=⟨ubdz_,ub1r_,uby1_,trivial⟩
def ubw4_:Env:=mkE uba9_ [] [] false
theorem ubo3_:EnvOK Tryz.prog false ubw4_:=enk ubmm_
def ubw5_:Code:=u4_ Tryz.f11
theorem ubuu_:um_ Tryz.prog 11∧FunOK Tryz.prog 11 uba8_ :=
 fnk (c:=ubw5_) (l:=[]) ubo3_ Tryz.func11 trivial
def ubec_:FSpec:=⟨[.val (.agg ZZ1)],[.val (.slice (.agg ZZ16)),.val (.int .i64)],uli_,false⟩
def ubed_:List (Nat×FSpec):=[(11,uba8_),(19,u3y_),(127,u64_),(128,uxr_)]
theorem ubo4_:FsOK Tryz.prog ubed_:=⟨ubuu_,ubhv_,ubkv_,ubfm_,trivial⟩
def uyl_:CSpec:=⟨⟨[1,37],[.box (.val ZZ1),.val .bool]⟩,[(.normal,⟨[1],[.box (.val ZZ1)]⟩),(.ret,⟨[2,3],[.val (.slice (.agg ZZ16)),.val (.int .i64)]⟩)],([2,3,5,6]++seg 38 9),ugw_,[]⟩
def uym_:CSpec:=⟨⟨[7,52,53,54],[.own 42 (.agg ZZ16) false,.val (.slice (.agg ZZ4)),.val (.int .i64),.val (.int .i64)]⟩,[((.exit 1),⟨[7],[.own 42 (.agg ZZ16) false]⟩),(.ret,⟨[2,3],[.val (.slice (.agg ZZ16)),.val (.int .i64)]⟩)],([2,3,7,9,10,11]++seg 54 17),ur8_,[]⟩
def uby5_:Env:=mkE ubed_ [(4,uyl_),(7,uym_)] [] false
theorem uv1_:EnvOK Tryz.prog false uby5_:=enk ubo4_
def uev_:Code:=u4_ Tryz.f72
theorem ubmn_:CutOK Tryz.prog false Tryz.f72.ntmps uyl_ (sub uev_ [1,1,1,1,0,1]) :=
 brk (c:=uqv_ (sub uev_ [1,1,1,1,0,1])) (x:=sub uev_ [1,1,1,1,0,1,0]) (y:=sub uev_ [1,1,1,1,0,1,1]) (n:=4) (lx:=[]) (ly:=[]) uv1_ trivial trivial
theorem ubmo_:CutOK Tryz.prog false Tryz.f72.ntmps uym_ (sub uev_ [1,1,1,1,1,1,1,0,1,0]) :=
 lok (body:=sub uev_ [1,1,1,1,1,1,1,0,1,0,0]) (n:=8) (l:=[]) uv1_ trivial
theorem ubw6_:um_ Tryz.prog 72∧FunOK Tryz.prog 72 ubec_ :=
 fnk (c:=uev_) (l:=[(uyl_,sub uev_ [1,1,1,1,0,1]),(uym_,sub uev_ [1,1,1,1,1,1,1,0,1,0])]) uv1_ Tryz.func72 ⟨⟨by kernel_rfl,ubmn_⟩,⟨by kernel_rfl,ubmo_⟩,trivial⟩
def ubif_:FSpec:=⟨[.val (.agg ZZ1)],[.val (.int .i64)],uha_,false⟩
def ubig_:List (Nat×FSpec):=[(72,ubec_)]
theorem ubr5_:FsOK Tryz.prog ubig_:=⟨ubw6_,trivial⟩
def ub1s_:Env:=mkE ubig_ [] [] false
theorem ubuv_:EnvOK Tryz.prog false ub1s_:=enk ubr5_
def ub1t_:Code:=u4_ Tryz.f35
theorem uby6_:um_ Tryz.prog 35∧FunOK Tryz.prog 35 ubif_ :=
 fnk (c:=ub1t_) (l:=[]) ubuv_ Tryz.func35 trivial
def utz_:FSpec:=⟨[.val ZZ13],[.val (.int .i64)],umn_,false⟩
def u5l_:List (Nat×FSpec):=[(35,ubif_)]
theorem ubgw_:FsOK Tryz.prog u5l_:=⟨uby6_,trivial⟩
def uru_:CSpec:=⟨⟨[9,10,11],[.val ZZ13,.val (.int .i64),.val (.int .i64)]⟩,[((.exit 0),⟨[],[]⟩),(.ret,⟨[2],[.val (.int .i64)]⟩)],([2,4,5]++seg 11 10),ute_,[]⟩
def ubr6_:Env:=mkE u5l_ [(1,uru_)] [] false
theorem u0i_:EnvOK Tryz.prog false ubr6_:=enk ubgw_
def uor_:Code:=u4_ Tryz.f14
theorem ubee_:CutOK Tryz.prog false Tryz.f14.ntmps uru_ (sub uor_ [1,1,0,1,0]) :=
 lok (body:=sub uor_ [1,1,0,1,0,0]) (n:=2) (l:=[]) u0i_ trivial
theorem u5m_:um_ Tryz.prog 14∧FunOK Tryz.prog 14 utz_ :=
 fnk (c:=uor_) (l:=[(uru_,sub uor_ [1,1,0,1,0])]) u0i_ Tryz.func14 ⟨⟨by kernel_rfl,ubee_⟩,trivial⟩
def u5n_:FSpec:=⟨[.val (.int .i64),.box (.own 3 (.int .i64) true)],[.val (.int .i64)],ugx_,true⟩
def u5o_:List (Nat×FSpec):=[]
theorem ubgx_:FsOK Tryz.prog u5o_:=trivial
def urv_:CSpec:=⟨⟨[0,1],[.val (.int .i64),.box (.own 3 (.int .i64) true)]⟩,[((.exit 0),⟨[0,1],[.val (.int .i64),.box (.own 3 (.int .i64) true)]⟩)],([0]++seg 4 20),u4t_,[]⟩
def ubr7_:Env:=mkE u5o_ [(0,urv_)] [] true
theorem u0j_:EnvOK Tryz.prog true ubr7_:=enk ubgx_
def uos_:Code:=u4_ Tryz.f36
theorem ubef_:CutOK Tryz.prog true Tryz.f36.ntmps urv_ (sub uos_ [1,0,0]) :=
 lok (body:=sub uos_ [1,0,0,0]) (n:=1) (l:=[]) u0j_ trivial
theorem ubo5_:um_ Tryz.prog 36∧FunOK Tryz.prog 36 u5n_ :=
 fnk (c:=uos_) (l:=[(urv_,sub uos_ [1,0,0])]) u0j_ Tryz.func36 ⟨⟨by kernel_rfl,ubef_⟩,trivial⟩
def ubeg_:FSpec:=⟨[.val ZZ13],[.val (.slice ZZ12)],u1z_,true⟩
def ubeh_:List (Nat×FSpec):=[(36,u5n_)]
theorem ubo6_:FsOK Tryz.prog ubeh_:=⟨ubo5_,trivial⟩
def uyn_:CSpec:=⟨⟨[3,24,25],[.box (.own 3 (.int .i64) true),.val (.int .i64),.val (.int .i64)]⟩,[((.exit 0),⟨[3],[.box (.own 3 (.int .i64) true)]⟩)],([4]++seg 25 8),u0z_,[]⟩
def uyo_:CSpec:=⟨⟨[3,6,7,47,48,49],[.box (.own 3 (.int .i64) true),.omap .str (.int .i64),.val (.int .i64),.own 9 .str false,.val (.int .i64),.val (.int .i64)]⟩,[((.exit 4),⟨[3,6],[.box (.own 3 (.int .i64) true),.omap .str (.int .i64)]⟩)],([10,11,12,13,14]++seg 49 30),u00_,[(5,38797315)]⟩
def uyp_:CSpec:=⟨⟨[3,6,35,36,37],[.box (.own 3 (.int .i64) true),.omap .str (.int .i64),.val ZZ13,.val (.int .i64),.val (.int .i64)]⟩,[((.exit 2),⟨[3],[.box (.own 3 (.int .i64) true)]⟩)],([7,8,10,11,12,13,14]++seg 37 43),u01_,[(5,38797315)]⟩
def uyq_:CSpec:=⟨⟨[3,15,82,83],[.box (.own 3 (.int .i64) true),.og 3 (.int .i64) (.int .i64),.val (.int .i64),.val (.int .i64)]⟩,[((.exit 6),⟨[15],[.og 3 (.int .i64) (.int .i64)]⟩)],([16]++seg 83 16),u02_,[(5,38797315)]⟩
def uyr_:CSpec:=⟨⟨[15,17,100,101],[.og 3 (.int .i64) (.int .i64),.own 53 ZZ12 false,.val (.int .i64),.val (.int .i64)]⟩,[((.exit 8),⟨[17],[.own 53 ZZ12 false]⟩)],([17,18,19]++seg 101 14),u03_,[]⟩
def uby7_:Env:=mkE ubeh_ [(0,uyn_),(4,uyo_),(2,uyp_),(7,uyq_),(9,uyr_)] [3,22,80,94] true
theorem ug1_:EnvOK Tryz.prog true uby7_:=enk ubo6_
def ubp_:Code:=u4_ Tryz.f15
theorem ubmp_:CutOK Tryz.prog true Tryz.f15.ntmps uyn_ (sub ubp_ [1,1,0,1,0]) :=
 lok (body:=sub ubp_ [1,1,0,1,0,0]) (n:=1) (l:=[]) ug1_ trivial
theorem ubmq_:CutOK Tryz.prog true Tryz.f15.ntmps uyo_ (sub ubp_ [1,1,1,1,1,0,1,0,0,1,1,0,0,1,1,0]) :=
 lok (body:=sub ubp_ [1,1,1,1,1,0,1,0,0,1,1,0,0,1,1,0,0]) (n:=5) (l:=[]) ug1_ trivial
theorem ubmr_:CutOK Tryz.prog true Tryz.f15.ntmps uyp_ (sub ubp_ [1,1,1,1,1,0,1,0]) :=
 lok (body:=sub ubp_ [1,1,1,1,1,0,1,0,0]) (n:=3) (l:=[(uyo_,sub ubp_ [1,1,1,1,1,0,1,0,0,1,1,0,0,1,1,0])]) ug1_ ⟨⟨by kernel_rfl,ubmq_⟩,trivial⟩
theorem ubms_:CutOK Tryz.prog true Tryz.f15.ntmps uyq_ (sub ubp_ [1,1,1,1,1,1,1,0,1,0]) :=
 lok (body:=sub ubp_ [1,1,1,1,1,1,1,0,1,0,0]) (n:=8) (l:=[]) ug1_ trivial
theorem ubmt_:CutOK Tryz.prog true Tryz.f15.ntmps uyr_ (sub ubp_ [1,1,1,1,1,1,1,1,1,0,1,0]) :=
 lok (body:=sub ubp_ [1,1,1,1,1,1,1,1,1,0,1,0,0]) (n:=10) (l:=[]) ug1_ trivial
theorem ubw7_:um_ Tryz.prog 15∧FunOK Tryz.prog 15 ubeg_ :=
 fnk (c:=ubp_) (l:=[(uyn_,sub ubp_ [1,1,0,1,0]),(uyp_,sub ubp_ [1,1,1,1,1,0,1,0]),(uyq_,sub ubp_ [1,1,1,1,1,1,1,0,1,0]),(uyr_,sub ubp_ [1,1,1,1,1,1,1,1,1,0,1,0])]) ug1_ Tryz.func15 ⟨⟨by kernel_rfl,ubmp_⟩,⟨by kernel_rfl,ubmr_⟩,⟨by kernel_rfl,ubms_⟩,⟨by kernel_rfl,ubmt_⟩,trivial⟩
def u5p_:FSpec:=⟨[.val (.int .i64),.val (.ptr (.slice .str)),.val (.ptr ZZ13)],[.val (.int .i64)],ump_,true⟩
def u5q_:List (Nat×FSpec):=[(24,uk8_)]
theorem ubgy_:FsOK Tryz.prog u5q_:=⟨urr_,trivial⟩
def ubr8_:Env:=mkE u5q_ [] [] true
theorem ubjp_:EnvOK Tryz.prog true ubr8_:=enk ubgy_
def ubr9_:Code:=u4_ Tryz.f73
theorem ubo7_:um_ Tryz.prog 73∧FunOK Tryz.prog 73 u5p_ :=
 fnk (c:=ubr9_) (l:=[]) ubjp_ Tryz.func73 trivial
def ubo8_:FSpec:=⟨[.nilS],[.own 3 (.int .i64) true],ubvs_,true⟩
def u5r_:List (Nat×FSpec):=[]
theorem ubgz_:FsOK Tryz.prog u5r_:=trivial
def ubsa_:Env:=mkE u5r_ [] [5] true
theorem ubjq_:EnvOK Tryz.prog true ubsa_:=enk ubgz_
def ubsb_:Code:=u4_ Tryz.f74
theorem ubo9_:um_ Tryz.prog 74∧FunOK Tryz.prog 74 ubo8_ :=
 fnk (c:=ubsb_) (l:=[]) ubjq_ Tryz.func74 trivial
def ubpa_:FSpec:=⟨[.nns (.int .i64)],[.own 3 (.int .i64) true],u04_,true⟩
def u5s_:List (Nat×FSpec):=[]
theorem ubg0_:FsOK Tryz.prog u5s_:=trivial
def ubsc_:Env:=mkE u5s_ [] [5] true
theorem ubjr_:EnvOK Tryz.prog true ubsc_:=enk ubg0_
def ubsd_:Code:=u4_ Tryz.f74
theorem ubpb_:um_ Tryz.prog 74∧FunOK Tryz.prog 74 ubpa_ :=
 fnk (c:=ubsd_) (l:=[]) ubjr_ Tryz.func74 trivial
def ubba_:FSpec:=⟨[.val ZZ12],[.own 3 (.int .i64) true],uxm_,true⟩
theorem ubuw_:um_ Tryz.prog 74∧FunOK Tryz.prog 74 ubba_:=ub4z_ ubo9_ ubpb_ (by kernel_rfl) (fun _=>rfl)
def u5t_:FSpec:=⟨[.val (.int .i64),.val (.int .i64),.val (.ptr (.fnc (.int .i64) (.int .i64))),.val (.ptr ZZ13)],[.val (.int .i64)],ur9_,false⟩
def u5u_:List (Nat×FSpec):=[(34,ugd_),(77,ubme_),(78,usn_)]
theorem ubg1_:FsOK Tryz.prog u5u_:=⟨uim_,ubx5_,u1g_,trivial⟩
def ubse_:Env:=mkE u5u_ [] [] false
theorem ubjs_:EnvOK Tryz.prog false ubse_:=enk ubg1_
def ubsf_:Code:=u4_ Tryz.f76
theorem ubpc_:um_ Tryz.prog 76∧FunOK Tryz.prog 76 u5t_ :=
 fnk (c:=ubsf_) (l:=[]) ubjs_ Tryz.func76 trivial
def ula_:FSpec:=⟨[.io 3 (.int .i64),.val (.int .i64),.val (.int .i64),.hof false ZZ9 (.int .i64)],[],ucx_,false⟩
def ulb_:List (Nat×FSpec):=[]
theorem uut_:FsOK Tryz.prog ulb_:=trivial
def ufp_:CSpec:=⟨⟨[0,1,3,9],[.own 3 (.int .i64) true,.val (.int .i64),.hof false ZZ9 (.int .i64),.val (.int .i64)]⟩,[((.exit 2),⟨[0],[.own 3 (.int .i64) true]⟩)],([9]++seg 18 35),uf6_,[]⟩
def ufq_:CSpec:=⟨⟨[0,1,2,3,8],[.own 3 (.int .i64) true,.val (.int .i64),.val (.int .i64),.hof false ZZ9 (.int .i64),.val (.int .i64)]⟩,[((.exit 0),⟨[0],[.own 3 (.int .i64) true]⟩)],([8,9]++seg 12 41),uf7_,[]⟩
def uzg_:Env:=mkE ulb_ [(2,ufp_),(0,ufq_)] [] false
theorem ue6_:EnvOK Tryz.prog false uzg_:=enk uut_
def ubm_:Code:=u4_ Tryz.f183
theorem ut0_:CutOK Tryz.prog false Tryz.f183.ntmps ufp_ (sub ubm_ [1,0,0,1,0,0,1,0]) :=
 lok (body:=sub ubm_ [1,0,0,1,0,0,1,0,0]) (n:=3) (l:=[]) ue6_ trivial
theorem ut1_:CutOK Tryz.prog false Tryz.f183.ntmps ufq_ (sub ubm_ [1,0]) :=
 lok (body:=sub ubm_ [1,0,0]) (n:=1) (l:=[(ufp_,sub ubm_ [1,0,0,1,0,0,1,0])]) ue6_ ⟨⟨by kernel_rfl,ut0_⟩,trivial⟩
theorem uys_:um_ Tryz.prog 183∧FunOK Tryz.prog 183 ula_ :=
 fnk (c:=ubm_) (l:=[(ufq_,sub ubm_ [1,0])]) ue6_ Tryz.func183 ⟨⟨by kernel_rfl,ut1_⟩,trivial⟩
def upf_:FSpec:=⟨[.io 3 (.int .i64),.val (.int .i64),.val (.int .i64),.val (.int .i64),.hof false ZZ9 (.int .i64)],[],ucz_,true⟩
def upg_:List (Nat×FSpec):=[]
theorem uzh_:FsOK Tryz.prog upg_:=trivial
def uhm_:CSpec:=⟨⟨[0,1,2,3,10],[.own 3 (.int .i64) true,.val (.int .i64),.val (.int .i64),.val (.int .i64),.val (.int .i64)]⟩,[((.exit 0),⟨[0],[.own 3 (.int .i64) true]⟩)],(seg 10 28),uie_,[]⟩
def u6b_:Env:=mkE upg_ [(0,uhm_)] [] true
theorem unc_:EnvOK Tryz.prog true u6b_:=enk uzh_
def ufh_:Code:=u4_ Tryz.f256
theorem uyt_:CutOK Tryz.prog true Tryz.f256.ntmps uhm_ (sub ufh_ [1,0]) :=
 lok (body:=sub ufh_ [1,0,0]) (n:=1) (l:=[]) unc_ trivial
theorem u36_:um_ Tryz.prog 256∧FunOK Tryz.prog 256 upf_ :=
 fnk (c:=ufh_) (l:=[(uhm_,sub ufh_ [1,0])]) unc_ Tryz.func256 ⟨⟨by kernel_rfl,uyt_⟩,trivial⟩
def us1_:FSpec:=⟨[.io 3 (.int .i64),.val (.int .i64),.val (.int .i64),.val (.int .i64),.hof false ZZ9 (.int .i64)],[],uis_,true⟩
def us2_:List (Nat×FSpec):=[(256,upf_)]
theorem u37_:FsOK Tryz.prog us2_:=⟨u36_,trivial⟩
def uje_:CSpec:=⟨⟨[0,2,4,10,11],[.own 3 (.int .i64) true,.val (.int .i64),.hof false ZZ9 (.int .i64),.val (.int .i64),.val (.int .i64)]⟩,[((.exit 0),⟨[0,10],[.own 3 (.int .i64) true,.val (.int .i64)]⟩)],([10,11]++seg 18 32),uj3_,[]⟩
def ubb7_:Env:=mkE us2_ [(0,uje_)] [] true
theorem uqr_:EnvOK Tryz.prog true ubb7_:=enk u37_
def uhc_:Code:=u4_ Tryz.f228
theorem u26_:CutOK Tryz.prog true Tryz.f228.ntmps uje_ (sub uhc_ [1,1,0,0]) :=
 lok (body:=sub uhc_ [1,1,0,0,0]) (n:=1) (l:=[]) uqr_ trivial
theorem u9g_:um_ Tryz.prog 228∧FunOK Tryz.prog 228 us1_ :=
 fnk (c:=uhc_) (l:=[(uje_,sub uhc_ [1,1,0,0])]) uqr_ Tryz.func228 ⟨⟨by kernel_rfl,u26_⟩,trivial⟩
def uv_ (n:Nat):FSpec:=⟨[.io 3 (.int .i64),.val (.int .i64),.val (.int .i64),.val (.int .i64),.hof false ZZ9 (.int .i64)],[],u5_ n,false⟩
def uqs_:FSpec:=⟨[.io 3 (.int .i64),.val (.int .i64),.val (.int .i64),.val (.int .i64),.hof false ZZ9 (.int .i64)],[],ueo_,false⟩
def uqt_ (n:Nat):List (Nat×FSpec):=[(184,(uv_ n)),(228,us1_)]
theorem u1n_ (n:Nat) (ih:um_ Tryz.prog 184∧FunOK Tryz.prog 184 (uv_ n)):FsOK Tryz.prog (uqt_ n):=⟨ih,u9g_,trivial⟩
def uih_ (n:Nat):CSpec:=⟨⟨[0,1,4,10,11],[.own 3 (.int .i64) true,.val (.int .i64),.hof false ZZ9 (.int .i64),.val (.int .i64),.val (.int .i64)]⟩,[((.exit 0),⟨[0,10],[.own 3 (.int .i64) true,.val (.int .i64)]⟩)],([10,11,12]++seg 31 23),(uit_ (u5_ n)),[]⟩
def uii_ (n:Nat):CSpec:=⟨⟨[0,10,13],[.own 3 (.int .i64) true,.val (.int .i64),.val (.int .i64)]⟩,[((.exit 2),⟨[0],[.own 3 (.int .i64) true]⟩)],([13]++seg 55 22),(uiu_ (u5_ n)),[]⟩
def uij_ (n:Nat):CSpec:=⟨⟨[0,2,4,14,15],[.own 3 (.int .i64) true,.val (.int .i64),.hof false ZZ9 (.int .i64),.val (.int .i64),.val (.int .i64)]⟩,[((.exit 4),⟨[0,14],[.own 3 (.int .i64) true,.val (.int .i64)]⟩)],([14,15,16]++seg 83 24),(uiv_ (u5_ n)),[]⟩
def uhn_ (n:Nat):CSpec:=⟨⟨[0,14,17],[.own 3 (.int .i64) true,.val (.int .i64),.val (.int .i64)]⟩,[((.exit 6),⟨[0],[.own 3 (.int .i64) true]⟩)],([17]++seg 108 21),(uif_ (u5_ n)),[]⟩
def uho_ (n:Nat):CSpec:=⟨⟨[1,2,3,18,19,140],[.val (.int .i64),.val (.int .i64),.val (.int .i64),.val (.int .i64),.val (.int .i64),.val .bool]⟩,[(.normal,⟨[20,21],[.val (.int .i64),.val (.int .i64)]⟩)],[20,21,141,142,143,144,145,146],(ues_ (u5_ n)),[]⟩
def uhp_ (n:Nat):CSpec:=⟨⟨[0,4,20,21,22],[.own 3 (.int .i64) true,.hof false ZZ9 (.int .i64),.val (.int .i64),.val (.int .i64),.val (.int .i64)]⟩,[((.exit 8),⟨[0,20],[.own 3 (.int .i64) true,.val (.int .i64)]⟩)],([20,21,23]++seg 149 26),(uig_ (u5_ n)),[]⟩
def uhq_ (n:Nat):CSpec:=⟨⟨[0,2,4,20,24,185],[.own 3 (.int .i64) true,.val (.int .i64),.hof false ZZ9 (.int .i64),.val (.int .i64),.val (.int .i64),.val .bool]⟩,[(.normal,⟨[0],[.own 3 (.int .i64) true]⟩)],[186,187,188,189,190,191],(uet_ (u5_ n)),[]⟩
def uhr_ (n:Nat):CSpec:=⟨⟨[0,1,4,18,20,199],[.own 3 (.int .i64) true,.val (.int .i64),.hof false ZZ9 (.int .i64),.val (.int .i64),.val (.int .i64),.val .bool]⟩,[(.normal,⟨[0],[.own 3 (.int .i64) true]⟩)],[200,201,202,203,204,205],(ueu_ (u5_ n)),[]⟩
def u77_ (n:Nat):Env:=mkE (uqt_ n) [(1,(uih_ n)),(4,(uii_ n)),(7,(uij_ n)),(10,(uhn_ n)),(12,(uho_ n)),(13,(uhp_ n)),(16,(uhq_ n)),(17,(uhr_ n))] [] false
theorem ube_ (n:Nat) (ih:um_ Tryz.prog 184∧FunOK Tryz.prog 184 (uv_ n)):EnvOK Tryz.prog false (u77_ n):=enk (u1n_ n ih)
def ui_:Code:=u4_ Tryz.f184
theorem uzi_ (n:Nat) (ih:um_ Tryz.prog 184∧FunOK Tryz.prog 184 (uv_ n)):CutOK Tryz.prog false Tryz.f184.ntmps (uih_ n) (sub ui_ [0,1,0,1,1,0,0]) :=
 lok (body:=sub ui_ [0,1,0,1,1,0,0,0]) (n:=2) (l:=[]) (ube_ n ih) trivial
theorem uzj_ (n:Nat) (ih:um_ Tryz.prog 184∧FunOK Tryz.prog 184 (uv_ n)):CutOK Tryz.prog false Tryz.f184.ntmps (uii_ n) (sub ui_ [0,1,0,1,1,1,0,1,0]) :=
 lok (body:=sub ui_ [0,1,0,1,1,1,0,1,0,0]) (n:=5) (l:=[]) (ube_ n ih) trivial
theorem uzk_ (n:Nat) (ih:um_ Tryz.prog 184∧FunOK Tryz.prog 184 (uv_ n)):CutOK Tryz.prog false Tryz.f184.ntmps (uij_ n) (sub ui_ [1,0,1,0,1,1,0,0]) :=
 lok (body:=sub ui_ [1,0,1,0,1,1,0,0,0]) (n:=8) (l:=[]) (ube_ n ih) trivial
theorem uyu_ (n:Nat) (ih:um_ Tryz.prog 184∧FunOK Tryz.prog 184 (uv_ n)):CutOK Tryz.prog false Tryz.f184.ntmps (uhn_ n) (sub ui_ [1,0,1,0,1,1,1,0,1,0]) :=
 lok (body:=sub ui_ [1,0,1,0,1,1,1,0,1,0,0]) (n:=11) (l:=[]) (ube_ n ih) trivial
theorem uyv_ (n:Nat) (ih:um_ Tryz.prog 184∧FunOK Tryz.prog 184 (uv_ n)):CutOK Tryz.prog false Tryz.f184.ntmps (uho_ n) (sub ui_ [1,1,1,1,1,0,1]) :=
 brk (c:=uqv_ (sub ui_ [1,1,1,1,1,0,1])) (x:=sub ui_ [1,1,1,1,1,0,1,0]) (y:=sub ui_ [1,1,1,1,1,0,1,1]) (n:=12) (lx:=[]) (ly:=[]) (ube_ n ih) trivial trivial
theorem uyw_ (n:Nat) (ih:um_ Tryz.prog 184∧FunOK Tryz.prog 184 (uv_ n)):CutOK Tryz.prog false Tryz.f184.ntmps (uhp_ n) (sub ui_ [1,1,1,1,1,1,1,0,0]) :=
 lok (body:=sub ui_ [1,1,1,1,1,1,1,0,0,0]) (n:=14) (l:=[]) (ube_ n ih) trivial
theorem uyx_ (n:Nat) (ih:um_ Tryz.prog 184∧FunOK Tryz.prog 184 (uv_ n)):CutOK Tryz.prog false Tryz.f184.ntmps (uhq_ n) (sub ui_ [1,1,1,1,1,1,1,1,1,0,1]) :=
 brk (c:=uqv_ (sub ui_ [1,1,1,1,1,1,1,1,1,0,1])) (x:=sub ui_ [1,1,1,1,1,1,1,1,1,0,1,0]) (y:=sub ui_ [1,1,1,1,1,1,1,1,1,0,1,1]) (n:=16) (lx:=[]) (ly:=[]) (ube_ n ih) trivial trivial
theorem uyy_ (n:Nat) (ih:um_ Tryz.prog 184∧FunOK Tryz.prog 184 (uv_ n)):CutOK Tryz.prog false Tryz.f184.ntmps (uhr_ n) (sub ui_ [1,1,1,1,1,1,1,1,1,1,0,1]) :=
 brk (c:=uqv_ (sub ui_ [1,1,1,1,1,1,1,1,1,1,0,1])) (x:=sub ui_ [1,1,1,1,1,1,1,1,1,1,0,1,0]) (y:=sub ui_ [1,1,1,1,1,1,1,1,1,1,0,1,1]) (n:=17) (lx:=[]) (ly:=[]) (ube_ n ih) trivial trivial
theorem u27_ (n:Nat) (ih:um_ Tryz.prog 184∧FunOK Tryz.prog 184 (uv_ n)):um_ Tryz.prog 184∧FunOK Tryz.prog 184 (uv_ (n+1)) :=
 fnk (c:=ui_) (l:=[((uih_ n),sub ui_ [0,1,0,1,1,0,0]),((uii_ n),sub ui_ [0,1,0,1,1,1,0,1,0]),((uij_ n),sub ui_ [1,0,1,0,1,1,0,0]),((uhn_ n),sub ui_ [1,0,1,0,1,1,1,0,1,0]),((uho_ n),sub ui_ [1,1,1,1,1,0,1]),((uhp_ n),sub ui_ [1,1,1,1,1,1,1,0,0]),((uhq_ n),sub ui_ [1,1,1,1,1,1,1,1,1,0,1]),((uhr_ n),sub ui_ [1,1,1,1,1,1,1,1,1,1,0,1])]) (ube_ n ih) Tryz.func184 ⟨⟨by kernel_rfl,(uzi_ n ih)⟩,⟨by kernel_rfl,(uzj_ n ih)⟩,⟨by kernel_rfl,(uzk_ n ih)⟩,⟨by kernel_rfl,(uyu_ n ih)⟩,⟨by kernel_rfl,(uyv_ n ih)⟩,⟨by kernel_rfl,(uyw_ n ih)⟩,⟨by kernel_rfl,(uyx_ n ih)⟩,⟨by kernel_rfl,(uyy_ n ih)⟩,trivial⟩
theorem u28_:∀ n,um_ Tryz.prog 184∧FunOK Tryz.prog 184 (uv_ n):=fun n=>Nat.rec ⟨⟨Tryz.f184,ui_,Tryz.func184,by kernel_rfl,by kernel_rfl⟩,fun w I v args bs _ _ _ r hr=>by cases hr⟩ (fun n ih=>u27_ n ih) n
theorem u6c_:um_ Tryz.prog 184∧FunOK Tryz.prog 184 uqs_:=u28_ 100
def us3_:FSpec:=⟨[.io 3 (.int .i64),.val (.int .i64),.hof false ZZ9 (.int .i64)],[],uiw_,false⟩
def us4_:List (Nat×FSpec):=[(183,ula_),(184,uqs_)]
theorem u38_:FsOK Tryz.prog us4_:=⟨uys_,u6c_,trivial⟩
def ujf_:CSpec:=⟨⟨[0,1,2,6,7,8],[.own 3 (.int .i64) true,.val (.int .i64),.hof false ZZ9 (.int .i64),.val (.int .i64),.val (.int .i64),.val (.int .i64)]⟩,[((.exit 0),⟨[0,7],[.own 3 (.int .i64) true,.val (.int .i64)]⟩)],([7,8]++seg 11 12),uj4_,[]⟩
def ujg_:CSpec:=⟨⟨[0,1,2,6,7,8],[.own 3 (.int .i64) true,.val (.int .i64),.hof false ZZ9 (.int .i64),.val (.int .i64),.val (.int .i64),.val (.int .i64)]⟩,[((.exit 4),⟨[0,7],[.own 3 (.int .i64) true,.val (.int .i64)]⟩)],([7,8]++seg 33 16),uj5_,[]⟩
def ujh_:CSpec:=⟨⟨[0,1,2,6],[.own 3 (.int .i64) true,.val (.int .i64),.hof false ZZ9 (.int .i64),.val (.int .i64)]⟩,[((.exit 2),⟨[0],[.own 3 (.int .i64) true]⟩)],([6,7,8,9]++seg 28 35),uj6_,[]⟩
def ubb8_:Env:=mkE us4_ [(0,ujf_),(4,ujg_),(2,ujh_)] [] false
theorem ufi_:EnvOK Tryz.prog false ubb8_:=enk u38_
def ubi_:Code:=u4_ Tryz.f129
theorem u29_:CutOK Tryz.prog false Tryz.f129.ntmps ujf_ (sub ubi_ [1,1,0,0]) :=
 lok (body:=sub ubi_ [1,1,0,0,0]) (n:=1) (l:=[]) ufi_ trivial
theorem u3a_:CutOK Tryz.prog false Tryz.f129.ntmps ujg_ (sub ubi_ [1,1,1,1,0,0,1,0,1,0,0]) :=
 lok (body:=sub ubi_ [1,1,1,1,0,0,1,0,1,0,0,0]) (n:=5) (l:=[]) ufi_ trivial
theorem u3b_:CutOK Tryz.prog false Tryz.f129.ntmps ujh_ (sub ubi_ [1,1,1,1,0]) :=
 lok (body:=sub ubi_ [1,1,1,1,0,0]) (n:=3) (l:=[(ujg_,sub ubi_ [1,1,1,1,0,0,1,0,1,0,0])]) ufi_ ⟨⟨by kernel_rfl,u3a_⟩,trivial⟩
theorem u9h_:um_ Tryz.prog 129∧FunOK Tryz.prog 129 us3_ :=
 fnk (c:=ubi_) (l:=[(ujf_,sub ubi_ [1,1,0,0]),(ujh_,sub ubi_ [1,1,1,1,0])]) ufi_ Tryz.func129 ⟨⟨by kernel_rfl,u29_⟩,⟨by kernel_rfl,u3b_⟩,trivial⟩
def urw_:FSpec:=⟨[.io 3 (.int .i64),.hof false ZZ9 (.int .i64)],[],uh4_,false⟩
def urx_:List (Nat×FSpec):=[(129,us3_)]
theorem u3c_:FsOK Tryz.prog urx_:=⟨u9h_,trivial⟩
def u9i_:Env:=mkE urx_ [] [] false
theorem u39_:EnvOK Tryz.prog false u9i_:=enk u3c_
def u9j_:Code:=u4_ Tryz.f75
theorem u78_:um_ Tryz.prog 75∧FunOK Tryz.prog 75 urw_ :=
 fnk (c:=u9j_) (l:=[]) u39_ Tryz.func75 trivial
def ubei_:FSpec:=⟨[.val ZZ13,.val ZZ12,.val (.slice .str)],[.val ZZ12],u10_,false⟩
def ubej_:List (Nat×FSpec):=[(73,u5p_),(74,ubba_),(75,urw_),(76,u5t_)]
theorem ubpd_:FsOK Tryz.prog ubej_:=⟨ubo7_,ubuw_,u78_,ubpc_,trivial⟩
def uby8_:Env:=mkE ubej_ [] [9] false
theorem ubsg_:EnvOK Tryz.prog false uby8_:=enk ubpd_
def uby9_:Code:=u4_ Tryz.f37
theorem ubw8_:um_ Tryz.prog 37∧FunOK Tryz.prog 37 ubei_ :=
 fnk (c:=uby9_) (l:=[]) ubsg_ Tryz.func37 trivial
def ubg2_:FSpec:=⟨[.nilS],[.val (.slice .str)],ubno_,true⟩
def uyz_:List (Nat×FSpec):=[]
theorem u9k_:FsOK Tryz.prog uyz_:=trivial
def ubjt_:Env:=mkE uyz_ [] [] true
theorem ubb9_:EnvOK Tryz.prog true ubjt_:=enk u9k_
def ubju_:Code:=u4_ Tryz.f79
theorem ubg3_:um_ Tryz.prog 79∧FunOK Tryz.prog 79 ubg2_ :=
 fnk (c:=ubju_) (l:=[]) ubb9_ Tryz.func79 trivial
def ubg4_:FSpec:=⟨[.nns .str],[.val (.slice .str)],utd_,true⟩
def uy0_:List (Nat×FSpec):=[]
theorem u9l_:FsOK Tryz.prog uy0_:=trivial
def ubjv_:Env:=mkE uy0_ [] [] true
theorem ubca_:EnvOK Tryz.prog true ubjv_:=enk u9l_
def ubjw_:Code:=u4_ Tryz.f79
theorem ubg5_:um_ Tryz.prog 79∧FunOK Tryz.prog 79 ubg4_ :=
 fnk (c:=ubjw_) (l:=[]) ubca_ Tryz.func79 trivial
def u3d_:FSpec:=⟨[.val (.slice .str)],[.val (.slice .str)],uh2_,true⟩
theorem ubmu_:um_ Tryz.prog 79∧FunOK Tryz.prog 79 u3d_:=ub4z_ ubg3_ ubg5_ (by kernel_rfl) (fun _=>rfl)
def u9m_:FSpec:=⟨[.nilS],[.val ZZ15],ubfg_,true⟩
def us5_:List (Nat×FSpec):=[]
theorem u4a_:FsOK Tryz.prog us5_:=trivial
def ubcb_:Env:=mkE us5_ [] [] true
theorem u6d_:EnvOK Tryz.prog true ubcb_:=enk u4a_
def ubcc_:Code:=u4_ Tryz.f80
theorem u9n_:um_ Tryz.prog 80∧FunOK Tryz.prog 80 u9m_ :=
 fnk (c:=ubcc_) (l:=[]) u6d_ Tryz.func80 trivial
def u9o_:FSpec:=⟨[.nns (.agg (.prod (.int .i64) .str))],[.val ZZ15],un9_,true⟩
def us6_:List (Nat×FSpec):=[]
theorem u4b_:FsOK Tryz.prog us6_:=trivial
def ubcd_:Env:=mkE us6_ [] [] true
theorem u6e_:EnvOK Tryz.prog true ubcd_:=enk u4b_
def ubce_:Code:=u4_ Tryz.f80
theorem u9p_:um_ Tryz.prog 80∧FunOK Tryz.prog 80 u9o_ :=
 fnk (c:=ubce_) (l:=[]) u6e_ Tryz.func80 trivial
def uwo_:FSpec:=⟨[.val ZZ15],[.val ZZ15],uku_,true⟩
theorem ubek_:um_ Tryz.prog 80∧FunOK Tryz.prog 80 uwo_:=ub4z_ u9n_ u9p_ (by kernel_rfl) (fun _=>rfl)
def u1o_:FSpec:=⟨[.val (.agg ZZ1)],[.val (.agg ZZ1)],uue_,true⟩
def ubel_:List (Nat×FSpec):=[(79,u3d_),(80,uwo_)]
theorem ubpe_:FsOK Tryz.prog ubel_:=⟨ubmu_,ubek_,trivial⟩
def uy1_:CSpec:=⟨⟨[3,11,12,13],[.own 37 (.agg ZZ4) false,.val (.slice (.agg ZZ4)),.val (.int .i64),.val (.int .i64)]⟩,[((.exit 0),⟨[3],[.own 37 (.agg ZZ4) false]⟩)],([3,5]++seg 13 21),u0y_,[]⟩
def ubza_:Env:=mkE ubel_ [(0,uy1_)] [] true
theorem u79_:EnvOK Tryz.prog true ubza_:=enk ubpe_
def uvb_:Code:=u4_ Tryz.f38
theorem ubmv_:CutOK Tryz.prog true Tryz.f38.ntmps uy1_ (sub uvb_ [1,1,1,0,1,0]) :=
 lok (body:=sub uvb_ [1,1,1,0,1,0,0]) (n:=1) (l:=[]) u79_ trivial
theorem ubem_:um_ Tryz.prog 38∧FunOK Tryz.prog 38 u1o_ :=
 fnk (c:=uvb_) (l:=[(uy1_,sub uvb_ [1,1,1,0,1,0])]) u79_ Tryz.func38 ⟨⟨by kernel_rfl,ubmv_⟩,trivial⟩
def ubmw_:FSpec:=⟨[.val (.slice .str)],[.val .str],ubae_,true⟩
def ubmx_:List (Nat×FSpec):=[]
theorem ubux_:FsOK Tryz.prog ubmx_:=trivial
def u4c_:CSpec:=⟨⟨[3,6,7,8],[.val .str,.val (.slice .str),.val (.int .i64),.val (.int .i64)]⟩,[((.exit 0),⟨[],[]⟩),(.ret,⟨[2],[.val .str]⟩)],([2,5]++seg 8 9),u60_,[]⟩
def ub27_:Env:=mkE ubmx_ [(0,u4c_)] [] true
theorem uben_:EnvOK Tryz.prog true ub27_:=enk ubux_
def u13_:Code:=u4_ Tryz.f39
theorem ubsh_:CutOK Tryz.prog true Tryz.f39.ntmps u4c_ (sub u13_ [1,1,0,1,0]) :=
 lok (body:=sub u13_ [1,1,0,1,0,0]) (n:=1) (l:=[]) uben_ trivial
theorem ub1u_:um_ Tryz.prog 39∧FunOK Tryz.prog 39 ubmw_ :=
 fnk (c:=u13_) (l:=[(u4c_,sub u13_ [1,1,0,1,0])]) uben_ Tryz.func39 ⟨⟨by kernel_rfl,ubsh_⟩,trivial⟩
def ubql_:FSpec:=⟨[.val ZZ13,.val ZZ12,.val (.slice .str)],[.val (.agg ZZ1),.val .bool],ubfh_,false⟩
def ubqm_:List (Nat×FSpec):=[(37,ubei_),(38,u1o_),(39,ubmw_),(40,u4w_),(41,uxq_),(42,usy_)]
theorem ubw9_:FsOK Tryz.prog ubqm_:=⟨ubw8_,ubem_,ub1u_,ubnr_,ubfl_,u8r_,trivial⟩
def u8a_:CSpec:=⟨⟨[0,9,10,25,26,27],[.val ZZ13,.box (.val ZZ1),.own 9 .str true,.val ZZ12,.val (.int .i64),.val (.int .i64)]⟩,[((.exit 0),⟨[9,10],[.box (.val ZZ1),.own 9 .str true]⟩)],([10,12]++seg 27 29),ubbi_,[]⟩
def ub5n_:Env:=mkE ubqm_ [(0,u8a_)] [62,64] false
theorem ubih_:EnvOK Tryz.prog false ub5n_:=enk ubw9_
def u6f_:Code:=u4_ Tryz.f16
theorem ubuy_:CutOK Tryz.prog false Tryz.f16.ntmps u8a_ (sub u6f_ [1,1,1,1,1,0,1,0]) :=
 lok (body:=sub u6f_ [1,1,1,1,1,0,1,0,0]) (n:=1) (l:=[]) ubih_ trivial
theorem ub28_:um_ Tryz.prog 16∧FunOK Tryz.prog 16 ubql_ :=
 fnk (c:=u6f_) (l:=[(u8a_,sub u6f_ [1,1,1,1,1,0,1,0])]) ubih_ Tryz.func16 ⟨⟨by kernel_rfl,ubuy_⟩,trivial⟩
def u8b_:FSpec:=⟨[.val (.agg ZZ1),.val (.agg ZZ1)],[.val (.int .i64)],u2f_,true⟩
def ubmy_:List (Nat×FSpec):=[(34,ugd_)]
theorem ubuz_:FsOK Tryz.prog ubmy_:=⟨uim_,trivial⟩
def ub29_:Env:=mkE ubmy_ [] [] true
theorem ubxa_:EnvOK Tryz.prog true ub29_:=enk ubuz_
def ub3a_:Code:=u4_ Tryz.f18
theorem ubmz_:um_ Tryz.prog 18∧FunOK Tryz.prog 18 u8b_ :=
 fnk (c:=ub3a_) (l:=[]) ubxa_ Tryz.func18 trivial
def ubii_:FSpec:=⟨[.val ZZ13,.val (.slice .str)],[.val ZZ13,.val (.int .i64)],uxn_,false⟩
def ubij_:List (Nat×FSpec):=[(14,utz_),(15,ubeg_),(16,ubql_),(17,uhh_),(18,u8b_)]
theorem ubsi_:FsOK Tryz.prog ubij_:=⟨u5m_,ubw7_,ub28_,unt_,ubmz_,trivial⟩
def u1p_:CSpec:=⟨⟨[0,1,7,18,19,20],[.val ZZ13,.val (.slice .str),.own 31 (.agg ZZ1) true,.val (.slice ZZ12),.val (.int .i64),.val (.int .i64)]⟩,[((.exit 0),⟨[7],[.own 31 (.agg ZZ1) true]⟩),(.ret,⟨[4,5],[.val ZZ13,.val (.int .i64)]⟩)],([4,5,7,9,10,11]++seg 20 18),u3w_,[]⟩
def ub1v_:Env:=mkE ubij_ [(1,u1p_)] [] false
theorem ubbb_:EnvOK Tryz.prog false ub1v_:=enk ubsi_
def uy2_:Code:=u4_ Tryz.f5
theorem ubpf_:CutOK Tryz.prog false Tryz.f5.ntmps u1p_ (sub uy2_ [1,1,1,0,1,0]) :=
 lok (body:=sub uy2_ [1,1,1,0,1,0,0]) (n:=2) (l:=[]) ubbb_ trivial
theorem ubzb_:um_ Tryz.prog 5∧FunOK Tryz.prog 5 ubii_ :=
 fnk (c:=uy2_) (l:=[(u1p_,sub uy2_ [1,1,1,0,1,0])]) ubbb_ Tryz.func5 ⟨⟨by kernel_rfl,ubpf_⟩,trivial⟩
def ubqn_:FSpec:=⟨[.val ZZ13],[.val (.agg ZZ23),.val (.int .i64)],ub0m_,false⟩
def ubqo_:List (Nat×FSpec):=[(14,utz_),(17,uhh_),(18,u8b_),(38,u1o_)]
theorem ubxb_:FsOK Tryz.prog ubqo_:=⟨u5m_,unt_,ubmz_,ubem_,trivial⟩
def u8c_:CSpec:=⟨⟨[5,15,16,17],[.box (.pr (.val (.int .i64)) (.pr (.own 31 (.agg ZZ1) true) (.own 3 (.int .i64) true))),.val ZZ13,.val (.int .i64),.val (.int .i64)]⟩,[((.exit 0),⟨[5],[.box (.pr (.val (.int .i64)) (.pr (.own 31 (.agg ZZ1) true) (.own 3 (.int .i64) true)))]⟩)],([7]++seg 17 17),ubp0_,[]⟩
def u8d_:CSpec:=⟨⟨[2,5,8],[.box (.val ZZ23),.box (.pr (.val (.int .i64)) (.pr (.own 31 (.agg ZZ1) true) (.own 3 (.int .i64) true))),.val (.int .i64)]⟩,[((.exit 2),⟨[2,5],[.box (.val ZZ23),.box (.pr (.val (.int .i64)) (.pr (.own 31 (.agg ZZ1) true) (.own 3 (.int .i64) true)))]⟩),(.ret,⟨[2,3],[.box (.val ZZ23),.val (.int .i64)]⟩)],([3,8]++seg 37 22),ubp1_,[]⟩
def ub5o_:Env:=mkE ubqo_ [(1,u8c_),(3,u8d_)] [] false
theorem u4d_:EnvOK Tryz.prog false ub5o_:=enk ubxb_
def uot_:Code:=u4_ Tryz.f20
theorem ubu0_:CutOK Tryz.prog false Tryz.f20.ntmps u8c_ (sub uot_ [1,1,1,0,1,0]) :=
 lok (body:=sub uot_ [1,1,1,0,1,0,0]) (n:=2) (l:=[]) u4d_ trivial
theorem ubu1_:CutOK Tryz.prog false Tryz.f20.ntmps u8d_ (sub uot_ [1,1,1,1,1,0,1,0]) :=
 lok (body:=sub uot_ [1,1,1,1,1,0,1,0,0]) (n:=4) (l:=[]) u4d_ trivial
theorem ub3b_:um_ Tryz.prog 20∧FunOK Tryz.prog 20 ubqn_ :=
 fnk (c:=uot_) (l:=[(u8c_,sub uot_ [1,1,1,0,1,0]),(u8d_,sub uot_ [1,1,1,1,1,0,1,0])]) u4d_ Tryz.func20 ⟨⟨by kernel_rfl,ubu0_⟩,⟨by kernel_rfl,ubu1_⟩,trivial⟩
def ub7a_:FSpec:=⟨[],[.val .bool],ub92_,false⟩
def ub7b_:List (Nat×FSpec):=[(19,u3y_),(20,ubqn_)]
theorem ub7c_:FsOK Tryz.prog ub7b_:=⟨ubhv_,ub3b_,trivial⟩
def ucfm_:Env:=mkE ub7b_ [] [] false
theorem ub8w_:EnvOK Tryz.prog false ucfm_:=enk ub7c_
def ucfn_:Code:=u4_ Tryz.f6
theorem ucdo_:um_ Tryz.prog 6∧FunOK Tryz.prog 6 ub7a_ :=
 fnk (c:=ucfn_) (l:=[]) ub8w_ Tryz.func6 trivial
def uft_:FSpec:=⟨[.val ZZ13,.val ZZ13,.hof false (.prod (.agg ZZ1) (.agg ZZ1)) .bool],[.val .bool],ub3_,false⟩
def ufu_:List (Nat×FSpec):=[]
theorem ulr_:FsOK Tryz.prog ufu_:=trivial
def ucq_:CSpec:=⟨⟨[1,2,15,16,17],[.val ZZ13,.hof false (.prod (.agg ZZ1) (.agg ZZ1)) .bool,.val ZZ13,.val (.int .i64),.val (.int .i64)]⟩,[((.exit 0),⟨[],[]⟩),(.ret,⟨[6],[.val .bool]⟩)],([6,7,8,9]++seg 17 15),uct_,[]⟩
def uou_:Env:=mkE ufu_ [(1,ucq_)] [] false
theorem uew_:EnvOK Tryz.prog false uou_:=enk ulr_
def ubu_:Code:=u4_ Tryz.f7
theorem ulc_:CutOK Tryz.prog false Tryz.f7.ntmps ucq_ (sub ubu_ [1,1,0,1,0]) :=
 lok (body:=sub ubu_ [1,1,0,1,0,0]) (n:=2) (l:=[]) uew_ trivial
theorem uno_:um_ Tryz.prog 7∧FunOK Tryz.prog 7 uft_ :=
 fnk (c:=ubu_) (l:=[(ucq_,sub ubu_ [1,1,0,1,0])]) uew_ Tryz.func7 ⟨⟨by kernel_rfl,ulc_⟩,trivial⟩
def ury_:FSpec:=⟨[.val (.slice .str),.val (.slice .str)],[.val .bool],uh3_,true⟩
def u3e_:List (Nat×FSpec):=[]
theorem ubeo_:FsOK Tryz.prog u3e_:=trivial
def uqa_:CSpec:=⟨⟨[0,1,12,13],[.val (.slice .str),.val (.slice .str),.val (.int .i64),.val (.int .i64)]⟩,[((.exit 0),⟨[],[]⟩),(.ret,⟨[4],[.val .bool]⟩)],([4,5]++seg 13 13),uq9_,[]⟩
def ubpg_:Env:=mkE u3e_ [(1,uqa_)] [] true
theorem uy3_:EnvOK Tryz.prog true ubpg_:=enk ubeo_
def umb_:Code:=u4_ Tryz.f21
theorem ubcf_:CutOK Tryz.prog true Tryz.f21.ntmps uqa_ (sub umb_ [1,1,0,1,0]) :=
 lok (body:=sub umb_ [1,1,0,1,0,0]) (n:=2) (l:=[]) uy3_ trivial
theorem u3f_:um_ Tryz.prog 21∧FunOK Tryz.prog 21 ury_ :=
 fnk (c:=umb_) (l:=[(uqa_,sub umb_ [1,1,0,1,0])]) uy3_ Tryz.func21 ⟨⟨by kernel_rfl,ubcf_⟩,trivial⟩
def ufv_:FSpec:=⟨[.val (.slice (.agg ZZ4)),.val (.slice (.agg ZZ4)),.hof false (.prod (.agg ZZ4) (.agg ZZ4)) .bool],[.val .bool],ub4_,false⟩
def ufw_:List (Nat×FSpec):=[]
theorem uls_:FsOK Tryz.prog ufw_:=trivial
def ucr_:CSpec:=⟨⟨[1,2,15,16,17],[.val (.slice (.agg ZZ4)),.hof false (.prod (.agg ZZ4) (.agg ZZ4)) .bool,.val (.slice (.agg ZZ4)),.val (.int .i64),.val (.int .i64)]⟩,[((.exit 0),⟨[],[]⟩),(.ret,⟨[6],[.val .bool]⟩)],([6,7,8,9]++seg 17 15),ucu_,[]⟩
def uov_:Env:=mkE ufw_ [(1,ucr_)] [] false
theorem uex_:EnvOK Tryz.prog false uov_:=enk uls_
def ubv_:Code:=u4_ Tryz.f22
theorem uld_:CutOK Tryz.prog false Tryz.f22.ntmps ucr_ (sub ubv_ [1,1,0,1,0]) :=
 lok (body:=sub ubv_ [1,1,0,1,0,0]) (n:=2) (l:=[]) uex_ trivial
theorem unp_:um_ Tryz.prog 22∧FunOK Tryz.prog 22 ufv_ :=
 fnk (c:=ubv_) (l:=[(ucr_,sub ubv_ [1,1,0,1,0])]) uex_ Tryz.func22 ⟨⟨by kernel_rfl,uld_⟩,trivial⟩
def uwp_:FSpec:=⟨[.val ZZ15,.val ZZ15],[.val .bool],ukv_,true⟩
def uwq_:List (Nat×FSpec):=[]
theorem u8e_:FsOK Tryz.prog uwq_:=trivial
def ult_:CSpec:=⟨⟨[0,1,12,13],[.val ZZ15,.val ZZ15,.val (.int .i64),.val (.int .i64)]⟩,[((.exit 0),⟨[],[]⟩),(.ret,⟨[4],[.val .bool]⟩)],([4,5]++seg 13 13),umo_,[]⟩
def ubg6_:Env:=mkE uwq_ [(1,ult_)] [] true
theorem us7_:EnvOK Tryz.prog true ubg6_:=enk u8e_
def uiz_:Code:=u4_ Tryz.f47
theorem u6g_:CutOK Tryz.prog true Tryz.f47.ntmps ult_ (sub uiz_ [1,1,0,1,0]) :=
 lok (body:=sub uiz_ [1,1,0,1,0,0]) (n:=2) (l:=[]) us7_ trivial
theorem ubep_:um_ Tryz.prog 47∧FunOK Tryz.prog 47 uwp_ :=
 fnk (c:=uiz_) (l:=[(ult_,sub uiz_ [1,1,0,1,0])]) us7_ Tryz.func47 ⟨⟨by kernel_rfl,u6g_⟩,trivial⟩
def ubeq_:FSpec:=⟨[.val (.agg ZZ4),.val (.agg ZZ4)],[.val .bool],ulj_,true⟩
def uber_:List (Nat×FSpec):=[(21,ury_),(47,uwp_)]
theorem ubph_:FsOK Tryz.prog uber_:=⟨u3f_,ubep_,trivial⟩
def ubzc_:Env:=mkE uber_ [] [] true
theorem ubsj_:EnvOK Tryz.prog true ubzc_:=enk ubph_
def ubzd_:Code:=u4_ Tryz.f23
theorem ubxc_:um_ Tryz.prog 23∧FunOK Tryz.prog 23 ubeq_ :=
 fnk (c:=ubzd_) (l:=[]) ubsj_ Tryz.func23 trivial
def ub7d_:FSpec:=⟨[.val (.agg ZZ1),.val (.agg ZZ1)],[.val .bool],ub0n_,false⟩
def ub7e_:List (Nat×FSpec):=[(21,ury_),(22,ufv_),(23,ubeq_)]
theorem ub7f_:FsOK Tryz.prog ub7e_:=⟨u3f_,unp_,ubxc_,trivial⟩
def ucfo_:Env:=mkE ub7e_ [] [] false
theorem ub8x_:EnvOK Tryz.prog false ucfo_:=enk ub7f_
def ucfp_:Code:=u4_ Tryz.f8
theorem ucdp_:um_ Tryz.prog 8∧FunOK Tryz.prog 8 ub7d_ :=
 fnk (c:=ucfp_) (l:=[]) ub8x_ Tryz.func8 trivial
def ubcg_:FSpec:=⟨[.val ZZ13,.val (.slice .str)],[.val .bool],ujr_,false⟩
def uuu_:List (Nat×FSpec):=[(5,ubii_),(6,ub7a_),(7,uft_),(8,ub7d_),(9,um3_)]
theorem u6h_:FsOK Tryz.prog uuu_:=⟨ubzb_,ucdo_,uno_,ucdp_,uwm_,trivial⟩
def ukc_:CSpec:=⟨⟨[12,13,56,57,58],[.val .str,.val (.int .i64),.val ZZ13,.val (.int .i64),.val (.int .i64)]⟩,[((.exit 4),⟨[13],[.val (.int .i64)]⟩)],([13,15]++seg 58 17),ulk_,[]⟩
def ukd_:CSpec:=⟨⟨[5,50,51,52],[.val ZZ13,.own 9 .str false,.val (.int .i64),.val (.int .i64)]⟩,[((.exit 2),⟨[],[]⟩),(.ret,⟨[4],[.val .bool]⟩)],([4,12,13,15]++seg 52 26),ull_,[]⟩
def uke_:CSpec:=⟨⟨[5,39,40,41],[.val ZZ13,.val ZZ13,.val (.int .i64),.val (.int .i64)]⟩,[((.exit 0),⟨[],[]⟩),(.ret,⟨[4],[.val .bool]⟩)],([4,10,12,13,15]++seg 41 38),ulm_,[]⟩
def ubes_:Env:=mkE uuu_ [(6,ukc_),(4,ukd_),(2,uke_)] [] false
theorem ugc_:EnvOK Tryz.prog false ubes_:=enk u6h_
def ubo_:Code:=u4_ Tryz.f3
theorem u4e_:CutOK Tryz.prog false Tryz.f3.ntmps ukc_ (sub ubo_ [1,1,1,1,1,0,1,0,0,1,1,0,0,1,1,0,0,1,1,0,0,1,1,0,1,0]) :=
 lok (body:=sub ubo_ [1,1,1,1,1,0,1,0,0,1,1,0,0,1,1,0,0,1,1,0,0,1,1,0,1,0,0]) (n:=7) (l:=[]) ugc_ trivial
theorem u4f_:CutOK Tryz.prog false Tryz.f3.ntmps ukd_ (sub ubo_ [1,1,1,1,1,0,1,0,0,1,1,0,0,1,1,0]) :=
 lok (body:=sub ubo_ [1,1,1,1,1,0,1,0,0,1,1,0,0,1,1,0,0]) (n:=5) (l:=[(ukc_,sub ubo_ [1,1,1,1,1,0,1,0,0,1,1,0,0,1,1,0,0,1,1,0,0,1,1,0,1,0])]) ugc_ ⟨⟨by kernel_rfl,u4e_⟩,trivial⟩
theorem u4g_:CutOK Tryz.prog false Tryz.f3.ntmps uke_ (sub ubo_ [1,1,1,1,1,0,1,0]) :=
 lok (body:=sub ubo_ [1,1,1,1,1,0,1,0,0]) (n:=3) (l:=[(ukd_,sub ubo_ [1,1,1,1,1,0,1,0,0,1,1,0,0,1,1,0])]) ugc_ ⟨⟨by kernel_rfl,u4f_⟩,trivial⟩
theorem L5_AdvisoryMergedIsOnce_ok:um_ Tryz.prog 3∧FunOK Tryz.prog 3 ubcg_ :=
 fnk (c:=ubo_) (l:=[(uke_,sub ubo_ [1,1,1,1,1,0,1,0])]) ugc_ Tryz.func3 ⟨⟨by kernel_rfl,u4g_⟩,trivial⟩
end
end Go.Ev.Pv
