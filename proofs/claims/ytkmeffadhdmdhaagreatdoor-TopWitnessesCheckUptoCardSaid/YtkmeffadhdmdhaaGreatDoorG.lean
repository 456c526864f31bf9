/-
  The contracts of Go's library that the law reaches, in the evaluator's terms.
-/
import Derived.Shelf.Small.Strs
import Derived.Shelf.Small.Wraps
import Derived.Shelf.Utf8.RuneCount
import Derived.Shelf.Strings.Builder2Cap
import Derived.Shelf.Strconv.Itoa3
import Derived.Shelf.Strconv.AtoiAll
import Derived.Shelf.Strconv.ParseUintEmpty
import Derived.Shelf.Strconv.ParseUint10b64
import Derived.Shelf.Strconv.ParseUint10b32
import Derived.Shelf.Strconv.ParseUint10b16
import Derived.Shelf.Strconv.ParseUint10b8
import Derived.Shelf.Strings.Shaped
import Derived.Shelf.Sort.Plain
import Derived.Shelf.Strings.LastIndex
import Derived.Shelf.Strings.SplitShaped
import Derived.Shelf.Strings.Explode
import Derived.Shelf.Strings.Repeat
import Derived.Shelf.Strings.CaseAny
import Derived.Shelf.Strings.FieldsFuncGrows
import Derived.Shelf.Slices.Turned
import Derived.Shelf.Slices.Clone
import Derived.Shelf.Slices.Cells
import Derived.Shelf.Slices.In.SortNone
import Derived.Shelf.Slices.Empties
import Derived.Shelf.Slices.Empties2
import Derived.Shelf.SlicesE.Compact
import Derived.Shelf.SlicesE.Clone
import Derived.Shelf.SlicesE.IndexFunc
import Derived.Test.YtkmeffadhdmdhaaGreatDoorProg
import Derived.Lib.AppendIntMem
import Derived.Shelf.SlSortCmp.NoneTotal
import Derived.Lib.QuietBelow
import Derived.Deep.MidRow
import Derived.Test.YtkmeffadhdmdhaaGreatDoorA4
set_option linter.all false
set_option maxRecDepth 1000000
set_option maxHeartbeats 16000000
noncomputable section
namespace Go.Ev
variable{v:X2}{a:Ty}{args:KX X2}
variable [CB]
open Go.RowKit
def imNew(I:Im)(X:Nat->Nat->Prop):Im:=⟨λb o=>I.cell b o\/X b o,I.obj⟩
theorem Q5.below{w w':X4}{I:Im}(d:I4 w I)(a:Below w.heap.size w w'){X:Nat->Nat->Prop}(l:∀b o,X b o->w.heap.size<=b/\b<w'.heap.size):
 Q5 (·∈([]:KX Nat)) w I w' (imNew I X):=by
 have j:Ext w I w' (imNew I X):=⟨λb o h=>⟨.inl h,by simp only[World.cell?,a.block b (d.1 b o h)]⟩,λb h=>⟨h,a.block b (d.2.1 b h)⟩⟩
 exact ⟨j,λb e _=>a.block b e,a.size,λb o h=>h.imp id λh=>.inl (l b o h).1,λb h=>.inl h,
  λb o h=>h.elim (λh=>AQ (d.1 b o h) a.size) λh=>(l b o h).2,λb h=>AQ (d.2.1 b h) a.size,a.os,a.tape,a.output,d.2.2.ext j⟩
theorem Z9.given{P:Program}{f:Nat}{s:Q2}(h:∀(w:X4) (I:Im) (v:Z5 s.ps) (args:KX X2) (bs:KX Nat),I4 w I->R2 P w I s.ps v args bs->∀r,s.F v=some r->bs=[]/\
 Calls P f args.toArray w λe a=>∃l d X,e=.returned l/\d.length=s.rs.length/\MK d l/\Below w.heap.size w a/\(s.dr=true->w.drawn<=a.drawn)/\(∀b o,X b o->w.heap.size<=b/\b<a.heap.size)/\
  R2 P a (imNew I X) (s.rs++s.ps.filter EX) r (d++IF s.ps args) []):Z9 P f s:=by
 intro w I v args bs p j x r y;obtain⟨rfl,m⟩:=h w I v args bs p j r y;refine m.mono λe a ⟨l,d,X,z,A,B,C,G,D,E⟩=>?_;grind[imNew,Q5.below]
def noX:Nat->Nat->Prop:=λ_ _=>False
theorem j6{w w':X4}:∀b o,noX b o->w.heap.size<=b/\b<w'.heap.size:=λ_ _ h=>h.elim
section
variable{P:Program}{w:X4}{I:Im}
theorem PH{x:DO}(h:Z4 w I .str x v):v=.string ⟨x.toArray⟩/\x.length<=281474976710656:=by obtain⟨c,a,b,d⟩:=h;have a:c=[v]:=a;grind
theorem qC{k:IntKind}{n:Int}(h:Z4 w I (.int k) n v):v=.int k n/\F_ k n:=by obtain⟨c,a,b,d⟩:=h;have a:c=[v]:=a;grind
theorem AQq{b:X5}(h:Z4 w I .bool b v):v=.bool b:=by obtain⟨c,a,d⟩:=h;have a:c=[v]:=a;have d:c=[.bool b]:=d;grind
theorem OK{x:DO}(h:x.length<=281474976710656):Z4 w I .str x (.string ⟨x.toArray⟩):=⟨_,rfl,rfl,h⟩
theorem l4{k:IntKind}{n:Int}(h:F_ k n):Z4 w I (.int k) n (.int k n):=⟨_,rfl,rfl,h⟩
theorem A1I{b:X5}:Z4 w I .bool b (.bool b):=⟨_,rfl,rfl⟩
theorem in1{x:a.T}{bs:KX Nat}(h:R2 P w I [.val a] x args bs):bs=[]/\∃v,args=[v]/\Z4 w I a x v:=by obtain⟨v,rfl,b,rfl⟩:=h;grind
theorem R0{b:Ty}{x:a.T×b.T}{bs:KX Nat}(h:R2 P w I [.val a,.val b] x args bs):bs=[]/\∃v u,args=[v,u]/\Z4 w I a x.1 v/\Z4 w I b x.2 u:=by obtain⟨v,m,d,e,rfl,rfl,⟨j,rfl⟩,u,rfl,l,rfl⟩:=h;grind
theorem NW{x:a.T}(h:Z4 w I a x v):R2 P w I [.val a] x [v] []:=⟨v,rfl,h,rfl⟩
theorem AQr{b:Ty}{x:a.T×b.T}{u:X2}(h:Z4 w I a x.1 v)(k:Z4 w I b x.2 u):R2 P w I [.val a,.val b] x [v,u] []:=
 ⟨v,[u],[],[],rfl,rfl,⟨h,rfl⟩,u,rfl,k,rfl⟩
theorem out3{b c:Ty}{x:a.T×b.T×c.T}{u t:X2}(h:Z4 w I a x.1 v)(k:Z4 w I b x.2.1 u)(m:Z4 w I c x.2.2 t):R2 P w I [.val a,.val b,.val c] x [v,u,t] []:=
 ⟨v,[u,t],[],[],rfl,rfl,⟨h,rfl⟩,u,[t],[],[],rfl,rfl,⟨k,rfl⟩,t,rfl,m,rfl⟩
end
theorem Z9.flat1{P:Program}{f:Nat}{s:Q2}{t:Ty}(d:s.rs=[.val t])(A:s.ps.filter EX=[])(x:∀args,IF s.ps args=[])
 (h:∀ (w:X4) (I:Im) (v:Z5 s.ps) (args:KX X2) (bs:KX Nat),I4 w I->R2 P w I s.ps v args bs->∀ r,s.F v=some r->bs=[] /\
  ∃a,(∀b I',R2 P b I' (s.rs++s.ps.filter EX) r [a] [])/\Calls P f args.toArray w λe b=>e=.returned a/\Below w.heap.size w b/\(s.dr=true->w.drawn<=b.drawn)):Z9 P f s:=by
 refine Z9.given λw I v args bs z j r B=>?_;have⟨l,a,C,m⟩:=h w I v args bs z j r B;refine⟨l,m.mono λe b ⟨y,p,hd⟩=>⟨a,[a],noX,y,by rw[d];rfl,rfl,p,hd,j6,?_⟩⟩;grind
end Go.Ev
namespace Go.Proofs
open Tryz
theorem fk{α:Type}{a:Option α}{b c:α}(h:a=some b)(k:b=c:=by kernel_rfl):a=some c:=h.trans (congrArg some k)
open Go.Shelf
def uy:Go.Shelf.Ren:=⟨λ|169=>160|n=>n,λ|70=>295|9=>9|0=>0|72=>298|37=>296|127=>383|3=>3|5=>5|n=>n,λ|n=>n⟩
theorem vy:Go.Proofs.Lays.n169 Tryz.prog uy:=by repeat' first|(intros;kernel_rfl)|decide|constructor
theorem ud:Builder.Extra Tryz.prog uy:=by repeat' first|(intros;kernel_rfl)|decide|constructor
def uz:Go.Shelf.Ren:=⟨λ|158=>331|165=>157|166=>158|167=>159|169=>160|230=>161|203=>356|240=>237|241=>238|197=>239|118=>240|168=>241|270=>242|262=>243|276=>290|277=>291|260=>292|242=>293|313=>294|278=>326|274=>327|275=>328|n=>n,λ|9=>9|4=>4|3=>3|5=>5|72=>298|0=>0|76=>301|75=>300|107=>305|70=>295|20=>20|37=>296|127=>383|21=>21|105=>384|164=>445|162=>451|203=>449|119=>490|46=>261|139=>493|138=>492|51=>360|160=>494|208=>520|206=>518|80=>108|n=>n,λ|13=>1|3=>2|4=>3|n=>n⟩
theorem vz:Go.Proofs.Lays.n158 Tryz.prog uz:=by repeat' first|(intros;kernel_rfl)|decide|constructor
theorem ue:Builder.Extra Tryz.prog uz:=by repeat' first|(intros;kernel_rfl)|decide|constructor
abbrev tq:=Any.strings_ToUpper_ascii vz ue
def v0:Go.Shelf.Ren:=⟨λ|159=>102|165=>157|166=>158|167=>159|169=>160|230=>161|204=>162|240=>237|241=>238|197=>239|118=>240|168=>241|270=>242|262=>243|276=>290|277=>291|260=>292|242=>293|313=>294|278=>326|274=>327|275=>328|n=>n,λ|9=>9|4=>4|3=>3|5=>5|72=>298|0=>0|76=>301|75=>300|107=>305|70=>295|20=>20|37=>296|127=>383|21=>21|105=>384|164=>445|162=>451|203=>449|119=>490|46=>261|139=>493|138=>492|51=>360|160=>494|208=>520|206=>518|80=>108|n=>n,λ|13=>1|3=>2|4=>3|n=>n⟩
theorem wb:Go.Proofs.Lays.n159 Tryz.prog v0:=by repeat' first|(intros;kernel_rfl)|decide|constructor
theorem uf:Builder.Extra Tryz.prog v0:=by repeat' first|(intros;kernel_rfl)|decide|constructor
def v6:Go.Shelf.Ren:=⟨λ|156=>206|165=>157|166=>158|169=>160|240=>237|241=>238|276=>290|277=>291|n=>n,λ|31=>31|9=>9|3=>3|4=>4|0=>0|20=>20|72=>298|76=>301|70=>295|37=>296|75=>300|127=>383|164=>445|5=>5|80=>108|n=>n,λ|n=>n⟩
theorem wc:Go.Proofs.Lays.n156 Tryz.prog v6:=by repeat' first|(intros;kernel_rfl)|decide|constructor
theorem ug:Builder.Extra Tryz.prog v6:=by repeat' first|(intros;kernel_rfl)|decide|constructor
abbrev uh:=Any.strings_Join_none wc ug
abbrev uv:=Any.strings_Join wc ug
def v7:Go.Shelf.Ren:=⟨λ|137=>131|217=>204|266=>275|n=>n,λ|9=>9|5=>5|3=>3|n=>n,λ|n=>n⟩
theorem wd:Go.Proofs.Lays.n137 Tryz.prog v7:=by repeat' first|(intros;kernel_rfl)|decide|constructor
abbrev ui:=Any.strings_IndexByte wd
def v8:Go.Shelf.Ren:=⟨λ|103=>155|210=>233|206=>285|n=>n,λ|9=>9|4=>4|24=>257|3=>3|n=>n,λ|n=>n⟩
theorem we:Go.Proofs.Lays.n103 Tryz.prog v8:=by repeat' first|(intros;kernel_rfl)|decide|constructor
abbrev uj:=Any.strings_CutPrefix we
def uw:Go.Shelf.Ren:=⟨λ|171=>348|243=>367|246=>378|283=>383|284=>384|285=>385|286=>386|129=>201|317=>389|318=>390|319=>391|320=>392|337=>393|338=>394|n=>n,λ|3=>3|9=>9|2=>2|4=>4|171=>541|0=>0|53=>362|37=>296|5=>5|173=>543|212=>546|51=>360|20=>20|213=>547|46=>261|232=>548|233=>549|n=>n,λ|17=>6|18=>7|19=>8|n=>n⟩
theorem vv:Go.Proofs.LaysM.n171 Tryz.prog uw:=by repeat' first|(intros;kernel_rfl)|decide|constructor
def ux:Go.Shelf.Ren:=⟨λ|172=>230|244=>286|245=>287|247=>321|279=>322|280=>323|281=>324|282=>325|287=>353|316=>354|171=>348|205=>355|321=>370|322=>371|243=>367|246=>378|283=>383|284=>384|285=>385|286=>386|129=>201|317=>389|318=>390|319=>391|320=>392|337=>393|338=>394|n=>n,λ|9=>9|3=>3|75=>300|76=>301|4=>4|5=>5|167=>484|37=>296|0=>0|85=>485|2=>2|168=>487|53=>362|175=>512|46=>261|210=>515|127=>383|145=>531|143=>529|21=>21|171=>541|173=>543|212=>546|51=>360|20=>20|213=>547|232=>548|233=>549|80=>108|n=>n,λ|15=>4|16=>5|17=>6|18=>7|19=>8|n=>n⟩
theorem vw:Go.Proofs.LaysC.n172 Tryz.prog ux:=by repeat' first|(intros;kernel_rfl)|decide|constructor
abbrev um:=Any.strconv_Atoi_ok vw
abbrev tw:=Any.strconv_Atoi_syntax vw
abbrev ua:=Any.strconv_Atoi_range vw
def vb:Go.Shelf.Ren:=⟨λ|145=>146|220=>227|219=>284|217=>204|225=>318|224=>319|267=>320|266=>275|314=>352|n=>n,λ|9=>9|4=>4|59=>286|3=>3|5=>5|46=>261|146=>510|51=>360|n=>n,λ|1=>0|n=>n⟩
theorem wg:Go.Proofs.Lays.n145 Tryz.prog vb:=by repeat' first|(intros;kernel_rfl)|decide|constructor
abbrev vc:=Any.strings_Cut wg
def vd:Go.Shelf.Ren:=⟨λ|189=>83|125=>126|257=>125|128=>200|129=>201|294=>191|295=>192|296=>193|297=>194|298=>195|299=>196|216=>197|300=>198|301=>199|328=>269|329=>270|330=>271|331=>272|332=>273|215=>139|343=>312|n=>n,λ|28=>27|3=>3|46=>261|0=>0|51=>360|53=>362|4=>4|183=>354|182=>353|131=>102|5=>5|9=>9|218=>428|222=>432|228=>478|229=>461|n=>n,λ|n=>n⟩
theorem wh:Go.Proofs.Lays.n189 Tryz.prog vd:=by repeat' first|(intros;kernel_rfl)|decide|constructor
abbrev un:=Any.slices_Sort_int wh
def ve:Go.Shelf.Ren:=⟨λ|149=>150|222=>228|n=>n,λ|9=>9|5=>5|3=>3|4=>4|n=>n,λ|n=>n⟩
theorem wj:Go.Proofs.Lays.n149 Tryz.prog ve:=by repeat' first|(intros;kernel_rfl)|decide|constructor
abbrev tt:=Any.strings_LastIndexByte wj
def vo:Go.Shelf.Ren:=⟨λ|99=>289|206=>285|n=>n,λ|9=>9|4=>4|3=>3|n=>n,λ|n=>n⟩
theorem wu:Go.Proofs.Lays.n99 Tryz.prog vo:=by repeat' first|(intros;kernel_rfl)|decide|constructor
abbrev uk:=Any.strings_HasPrefix wu
def vf:Go.Shelf.Ren:=⟨λ|101=>151|208=>229|206=>285|n=>n,λ|9=>9|4=>4|3=>3|n=>n,λ|n=>n⟩
theorem wm:Go.Proofs.Lays.n101 Tryz.prog vf:=by repeat' first|(intros;kernel_rfl)|decide|constructor
abbrev ub:=Any.strings_TrimPrefix wm
def vg:Go.Shelf.Ren:=⟨λ|146=>203|221=>274|268=>313|138=>314|143=>315|195=>350|197=>239|218=>351|219=>284|260=>292|217=>204|225=>318|224=>319|267=>320|266=>275|314=>352|n=>n,λ|9=>9|31=>31|3=>3|4=>4|0=>0|105=>384|21=>21|5=>5|46=>261|119=>490|139=>493|138=>492|146=>510|51=>360|n=>n,λ|1=>0|3=>2|4=>3|n=>n⟩
theorem wn:Go.Proofs.Lays.n146 Tryz.prog vg:=by repeat' first|(intros;kernel_rfl)|decide|constructor
open Go.RowKit Go.Lib in
theorem uq(s sep:ByteArray)(m:Int)(w:World)(b:s.size<4294967281)(a:w.cell? ⟨0,0,none⟩=some (.int .i64 m))(h:1<=sep.size):
 Calls Tryz.prog 203 #[.string s,.string sep] w λe d=>e=.returned (.slice (some ⟨w.heap.size,0,none⟩) (Lib.countB s sep+1) (Lib.countB s sep+1))/\d=w.alloc (.cells ((Lib.splitB sep 0 (Lib.countB s sep) s).map Value.string).toArray 9):=Any.strings_Split wn oe s sep m w b a h
def vh:Go.Shelf.Ren:=⟨λ|105=>366|212=>376|99=>289|165=>157|166=>158|170=>377|169=>160|263=>381|264=>382|206=>285|240=>237|241=>238|276=>290|277=>291|n=>n,λ|9=>9|3=>3|4=>4|20=>20|0=>0|46=>261|109=>535|5=>5|72=>298|76=>301|51=>360|146=>510|53=>362|148=>539|70=>295|37=>296|75=>300|127=>383|164=>445|80=>108|n=>n,λ|n=>n⟩
theorem wq:Go.Proofs.Lays.n105 Tryz.prog vh:=by repeat' first|(intros;kernel_rfl)|decide|constructor
theorem ul:Builder.Extra Tryz.prog vh:=by repeat' first|(intros;kernel_rfl)|decide|constructor
abbrev uo:=Any.strings_Repeat wq ul
def vl:Go.Shelf.Ren:=⟨λ|229=>234|n=>n,λ|9=>9|40=>382|31=>31|152=>442|3=>3|0=>0|4=>4|21=>21|154=>444|n=>n,λ|n=>n⟩
theorem ws:Go.Proofs.Lays.n229 Tryz.prog vl:=by repeat' first|(intros;kernel_rfl)|decide|constructor
abbrev tz:=Any.strings_ToLower_any wb uf
def ur:Go.Shelf.Ren:=⟨λ|20=>84|n=>n,λ|22=>27|3=>3|4=>4|0=>0|n=>n,λ|n=>n⟩
theorem vu:Go.Proofs.Lays2.n20 Tryz.prog ur:=by repeat' first|(intros;kernel_rfl)|decide|constructor
abbrev uc:=Any.slices_Compact_int vu
abbrev t4:=Any.slices_Compact_int_empty vu
abbrev tv:=Any.slices_Sort_int_none wh
end Go.Proofs
namespace Go.Ev.Pv
variable{P:Program}{w w':X4}{n b:Nat}{I:Im}{cells:Array X2}{el:TypeId}
open Go.Proofs Go.RowKit Go.Lib
def HoldsTab(w:X4)(g:Nat)(k:IntKind)(zs:KX Int):Prop:=∃el fz,w.heap[g]?=some (.cells (zs.map λz=>Value.int k z).toArray el fz)
theorem AQs{n:String}{g:Nat}{k:IntKind}{z:KX Int}(a:P.globalNamed n=some g)(h:HoldsTab w g k z):Lib.TabIs P w n k z:=by obtain⟨el,fz,h⟩:=h;simp_all[Lib.TabIs,World.var?,A0]
theorem A97{o:Go.Obj}(h:w.heap[b]?=some o):b<w.heap.size:=(B6.1 h).1
def l8(w:X4):Prop:=
 HoldsTab w 6 .u64 Lib.pow10Tab/\CaseVar 1 caseA w/\Lib.Utf8Tabs 2 3 w/\(∃m,w.cell? ⟨0,0,none⟩=some (.int .i64 m))/\
 (∃ev,w.cell? ⟨4,0,none⟩=some ev/\(ev=.nilIface\/∃te pe,ev=.iface te pe))/\(∃ev,w.cell? ⟨5,0,none⟩=some ev/\(ev=.nilIface\/∃te pe,ev=.iface te pe))
theorem cP{o:Nat}{v:X2}(h:w.cell? ⟨b,o,none⟩=some v):b<w.heap.size:=by apply BX;grind[World.cell?,Array.getElem?_eq_none,Nat.le_of_not_lt]
theorem l8.below(h:l8 w)(a:Below w.heap.size w w'):l8 w':=by obtain⟨b,y,z,⟨m,j⟩,⟨s,l,d⟩,x,p,e⟩:=h;exact⟨(let ⟨el,fz,b⟩:=b;⟨el,fz,(a.block 6 (A97 b)).trans b⟩),CaseVar_below y a,Utf8Tabs_below z a,⟨m,(a.cell (cP j)).trans j⟩,⟨s,(a.cell (cP l)).trans l,d⟩,x,(a.cell (cP p)).trans p,e⟩
theorem l8.later(h:l8 w)(d:∀b,b<w.heap.size->w'.heap[b]?=w.heap[b]?):l8 w':=by
 have l:w.heap.size<=w'.heap.size:=by apply BX;intro m;have a:=d w'.heap.size oa;rw[Array.getElem?_eq_none (AD _),AU oa]at a;cases a
 have j:Below w.heap.size w {w' with os:=w.os,tape:=w.tape,output:=w.output}:=⟨rfl,rfl,rfl,l,d⟩;have e:=h.below j;exact e
noncomputable instance:CB:=⟨Tryz.prog,λw I=>∃w0,l8 w0/\∀b,b<w0.heap.size->I.obj b/\w.heap[b]?=w0.heap[b]?,
 λ⟨w0,h1,h2⟩ e=>⟨w0,h1,λb hb=>⟨(e.obj b (h2 b hb).1).1,(e.obj b (h2 b hb).1).2.trans (h2 b hb).2⟩⟩⟩
theorem facts(h:I4 w I):l8 w:=let ⟨_,h1,h2⟩:=h.2.2;h1.later λb a=>(h2 b a).2
theorem W6{f:Nat}{fn:Func}(h:Tryz.prog.funcs[f]?=some fn)(b:(fn.name== "runtime.NumGoroutine")=false)(a:fn.body=some (EF fn)):FJ Tryz.prog f:=⟨fn,_,h,b,a⟩
def AQt:Q2:=⟨[.val (.int .i64)],[.val .str],strconv_Itoa,true⟩
theorem OL:FJ Go.Proofs.Tryz.prog 348/\Z9 Go.Proofs.Tryz.prog 348 AQt:=by
 refine⟨W6 Tryz.func348 oe oe,Z9.flat1 (t:=.str) rfl rfl (λa=>by cases a<;>rfl) λw I v a bs j h r l=>?_⟩;obtain⟨rfl,x,rfl,p⟩:=in1 h;obtain⟨rfl,h0,b⟩:=qC p;cases l;refine⟨rfl,.string ⟨(SA v).toArray⟩,λw' I'=>NW (OK (AM (A4G v) oi)),?_⟩;rw[AJ8 h0 b];refine(Any.strconv_Itoa vv v h0 b w (AQs (g:=6) oe (facts j).1)).mono λe w' ⟨d,k,os,m⟩=>⟨d,?_,λ_=>?_⟩
 .simp_all[Lib.below_grow,AD]
 .rw[m];exact Nat.le_add_right _ _
theorem UY{D:Prop}(h:w'=w):Below w.heap.size w w'/\(D->w.drawn<=w'.drawn):=by simp_all[Below.refl,AD]
theorem A98{D:Prop}(h:∃n,w'=w.drewN n):Below w.heap.size w w'/\(D->w.drawn<=w'.drawn):=by obtain⟨n,rfl⟩:=h;exact⟨⟨rfl,rfl,rfl,AD _,λ_ _=>rfl⟩,λ_=>Nat.le_add_right _ _⟩
theorem cQ{a:DO}(h:a.length<n):(⟨a.toArray⟩:X3).size<n:=by assumption
theorem AQu{a:DO}{k:Nat}(h:a.length*k<=n):(⟨a.toArray⟩:X3).size*k<=n:=by assumption
theorem AQv(s p:DO):(Lib.cut s p).1.length<=s.length/\(Lib.cut s p).2.1.length<=s.length:=by grind[Lib.cut,List.length_take,List.length_drop]
theorem AQw{s:DO}{k:Nat}(h:s.length*k<=140737488355328):(Lib.repeatL s k).length<=281474976710656:=by rw[Lib.repeatL_length,D0];omega
theorem DB{n:Int}(h:-9223372036854775808<=n)(a:n<=9223372036854775807):F_ .i64 n:=⟨h,a⟩
theorem AQx{n:Int}(h:F_ .i64 n):n<=9223372036854775807:=h.2
theorem AQy(c:UInt8):∀l:KX UInt8,Lib.indexByte l c<=l.length:=by intro l;induction l<;>grind[Lib.indexByte,List.length_cons]
def AQz:Q2:=⟨[.val .str,.val (.int .u8)],[.val (.int .i64)],strings_IndexByte,true⟩
theorem cR:FJ Go.Proofs.Tryz.prog 131/\Z9 Go.Proofs.Tryz.prog 131 AQz:=by
 refine⟨W6 Tryz.func131 oe oe,Z9.flat1 (t:=.int .i64) rfl rfl (λa=>by rcases a with _|⟨_,_|⟨_,_⟩⟩<;>rfl) λw I v a bs z b r h=>?_⟩;obtain⟨rfl,x,y,rfl,l,m⟩:=R0 b;obtain⟨rfl,h0⟩:=PH l;obtain⟨rfl,p⟩:=qC m;have⟨s,h⟩:=OX h;cases h;refine⟨rfl,_,λw' I'=>NW (l4 (k:=.i64) (n:=Lib.indexByte v.1 v.2.toNat.toUInt8) ?_),?_⟩
 .have k1:=AQy v.2.toNat.toUInt8 v.1;have A:=Lib.indexByte_ge v.1 v.2.toNat.toUInt8;exact DB oa oa
 .exact(ui ⟨v.1.toArray⟩ v.2 w).mono λe w' ⟨d,j⟩=>⟨d,UY j⟩
theorem AR0(s:X3)(c:Int):∀k,-1<=Lib.lastIdx s c k/\Lib.lastIdx s c k<=k:=by intro k;induction k<;>grind[zero,Lib.lastIdx]
def AR1:Q2:=⟨[.val .str,.val (.int .u8)],[.val (.int .i64)],strings_LastIndexByte,true⟩
theorem AR2:FJ Go.Proofs.Tryz.prog 150/\Z9 Go.Proofs.Tryz.prog 150 AR1:=by
 refine⟨W6 Tryz.func150 oe oe,Z9.flat1 (t:=.int .i64) rfl rfl (λa=>by rcases a with _|⟨_,_|⟨_,_⟩⟩<;>rfl) λw I v a bs A b r h=>?_⟩;obtain⟨rfl,x,y,rfl,p,s⟩:=R0 b;obtain⟨rfl,h0⟩:=PH p;obtain⟨rfl,z⟩:=qC s;have⟨j,h⟩:=OX h;cases h;have d:(⟨v.1.toArray⟩:X3).size=v.1.length:=OR v.1;refine⟨rfl,_,λw' I'=>NW (l4 (k:=.i64) (n:=Lib.lastIndexByte ⟨v.1.toArray⟩ v.2) ?_),?_⟩
 .have k1:=AR0 ⟨v.1.toArray⟩ v.2 (⟨v.1.toArray⟩:X3).size;have B:((⟨v.1.toArray⟩:X3).size:Int)=(v.1.length:Nat):=by rw[d]
  unfold Lib.lastIndexByte;exact DB oa oa
 .exact(tt ⟨v.1.toArray⟩ v.2 (cQ j) w).mono λe w' ⟨l,m⟩=>⟨l,UY m⟩
def AR3:Q2:=⟨[.val .str,.val .str],[.val .bool],strings_HasPrefix,true⟩
theorem A99:FJ Go.Proofs.Tryz.prog 289/\Z9 Go.Proofs.Tryz.prog 289 AR3:=by refine⟨W6 Tryz.func289 oe oe,Z9.flat1 (t:=.bool) rfl rfl (λa=>by rcases a with _|⟨_,_|⟨_,_⟩⟩<;>rfl) λw I v a bs s h r d=>?_⟩;obtain⟨rfl,x,y,rfl,l,m⟩:=R0 h;obtain⟨rfl,h0⟩:=PH l;obtain⟨rfl,p⟩:=PH m;cases d;exact⟨rfl,_,λw' I'=>NW A1I,(uk ⟨v.1.toArray⟩ ⟨v.2.toArray⟩ w).mono λe w' ⟨b,j⟩=>⟨b,UY j⟩⟩
def AR4:Q2:=⟨[.val .str,.val .str],[.val .str],strings_TrimPrefix,true⟩
theorem AR5:FJ Go.Proofs.Tryz.prog 151/\Z9 Go.Proofs.Tryz.prog 151 AR4:=by refine⟨W6 Tryz.func151 oe oe,Z9.flat1 (t:=.str) rfl rfl (λa=>by rcases a with _|⟨_,_|⟨_,_⟩⟩<;>rfl) λw I v a bs s h r d=>?_⟩;obtain⟨rfl,x,y,rfl,l,m⟩:=R0 h;obtain⟨rfl,h0⟩:=PH l;obtain⟨rfl,p⟩:=PH m;cases d;exact⟨rfl,_,λw' I'=>NW (OK (AM (pC v.1 v.2) h0)),(ub ⟨v.1.toArray⟩ ⟨v.2.toArray⟩ w).mono λe w' ⟨b,j⟩=>⟨b,UY j⟩⟩
def AR6:Q2:=⟨[.val .str,.val .str],[.val .str,.val .bool],strings_CutPrefix,true⟩
theorem AR7:FJ Go.Proofs.Tryz.prog 155/\Z9 Go.Proofs.Tryz.prog 155 AR6:=by refine⟨W6 Tryz.func155 oe oe,Z9.given λw I v a bs s h r j=>?_⟩;obtain⟨rfl,x,y,rfl,l,m⟩:=R0 h;obtain⟨rfl,h0⟩:=PH l;obtain⟨rfl,p⟩:=PH m;cases j;refine⟨rfl,(uj ⟨v.1.toArray⟩ ⟨v.2.toArray⟩ w).mono λe w' ⟨d,b⟩=>⟨_,[_,_],noX,d,rfl,rfl,(UY (D:=True) b).1,λ_=>(UY b).2 trivial,j6,?_⟩⟩;exact AQr (a:=.str) (b:=.bool) (x:=(Lib.trimPrefix v.1 v.2,Lib.hasPrefix v.1 v.2)) (OK (AM (pC v.1 v.2) h0)) A1I
def AR8:Q2:=⟨[.val .str,.val .str],[.val .str,.val .str,.val .bool],strings_Cut,true⟩
theorem A9A:FJ Go.Proofs.Tryz.prog 146/\Z9 Go.Proofs.Tryz.prog 146 AR8:=by refine⟨W6 Tryz.func146 oe oe,Z9.given λw I v d bs z b r a=>?_⟩;obtain⟨rfl,x,y,rfl,A,B⟩:=R0 b;obtain⟨rfl,h0⟩:=PH A;obtain⟨rfl,C⟩:=PH B;have⟨p,a⟩:=OX a;cases a;have⟨m,h⟩:=(facts z).2.2.2.1;refine⟨rfl,(vc ⟨v.1.toArray⟩ ⟨v.2.toArray⟩ m w (cQ p) h).mono λe w' ⟨s,l⟩=>⟨_,[_,_,_],noX,s,rfl,rfl,(A98 (D:=True) l).1,λ_=>(A98 l).2 trivial,j6,?_⟩⟩;have j:=AQv v.1 v.2;exact out3 (a:=.str) (b:=.str) (c:=.bool) (x:=Lib.cut v.1 v.2) (OK (AM j.1 h0)) (OK (AM j.2 h0)) A1I
def AR9:Q2:=⟨[.val .str,.val (.int .i64)],[.val .str],strings_Repeat,false⟩
theorem ARA:FJ Go.Proofs.Tryz.prog 366/\Z9 Go.Proofs.Tryz.prog 366 AR9:=by
 refine⟨W6 Tryz.func366 oe oe,Z9.flat1 (t:=.str) rfl rfl (λa=>by rcases a with _|⟨_,_|⟨_,_⟩⟩<;>rfl) λw I v a bs D j r d=>?_⟩;obtain⟨rfl,x,y,rfl,B,C⟩:=R0 j;obtain⟨rfl,h0⟩:=PH B;obtain⟨rfl,m⟩:=qC C;have⟨⟨p,l⟩,d⟩:=OX d;cases d;have z:((v.2.toNat:Nat):Int)=v.2:=Int.toNat_of_nonneg p
 have hk:v.2.toNat<=9223372036854775807:=by have:=AQx m;omega
 have b:=AQw l;refine⟨rfl,_,λw' I'=>NW (OK b),?_⟩;have:=uo ⟨v.1.toArray⟩ v.2.toNat w hk (AQu l);rw[z]at this;exact this.mono λe w' ⟨s,A⟩=>⟨s,A,λh=>om⟩
def ARB:Q2:=⟨[.val .str],[.val .str],ZM,false⟩
theorem A9B:FJ Go.Proofs.Tryz.prog 102/\Z9 Go.Proofs.Tryz.prog 102 ARB:=by refine⟨W6 Tryz.func102 oe oe,Z9.flat1 (t:=.str) rfl rfl (λa=>by cases a<;>rfl) λw I v a bs j d r b=>?_⟩;obtain⟨rfl,x,rfl,y⟩:=in1 d;obtain⟨rfl,h0⟩:=PH y;have⟨l,b⟩:=OX b;obtain⟨rfl,m⟩:=str?_some b;exact⟨rfl,_,λw' I'=>NW (OK m),(tz ⟨v.toArray⟩ w (cQ l) (facts j).2.1 (facts j).2.2.1).mono λe w' ⟨p,s⟩=>⟨p,s,λh=>om⟩⟩
theorem ARC(w:X4)(t:TypeId)(s:X3):Below w.heap.size w (Lib.bytesWorld w t s):=by unfold Lib.bytesWorld;exact Lib.below_freeze (((Below.refl _ _).drew).alloc (AD _) _) (p:=⟨w.heap.size,_,none⟩) (AD _) _
def ARD:Q2:=⟨[.val .str],[.val (.int .i64),.any],gB,false⟩
theorem A1J{n:Int}(h:F_ .i64 n)(v:X2):R2 P w I [.val (.int .i64),.any] (n,()) [.int .i64 n,v] []:=
 ⟨_,_,[],[],rfl,rfl,⟨l4 h,rfl⟩,v,rfl,rfl⟩
theorem ARE{s:DO}{v:Int}(h:Lib.atoiAll s=.ok v):F_ .i64 v:=by unfold Lib.atoiAll at h;grind[DB]
theorem ARF(s:DO):F_ .i64 (Lib.atoiSat s):=by grind[Lib.atoiSat,DB]
theorem strconv_Atoi_ok:FJ Go.Proofs.Tryz.prog 230/\Z9 Go.Proofs.Tryz.prog 230 ARD:=by
 refine⟨W6 Tryz.func230 oe oe,Z9.given λw I v y bs D s r a=>?_⟩;obtain⟨rfl,x,rfl,E⟩:=in1 s;obtain⟨rfl,h0⟩:=PH E;have⟨G,a⟩:=OX a;have p:(⟨Array.mk v⟩:X3).size<=281474976710656:=by have:=cQ (a:=v) (n:=281474976710657) oa;exact Nat.le_of_lt_succ this
 refine⟨rfl,?_⟩;have⟨_,_,_,_,⟨z,B,l⟩,A,C,m⟩:=facts D;cases b:Lib.atoiAll v
 .rename_i n;rw[b]at a;dsimp only at a;cases a;refine(um ⟨v.toArray⟩ (AM p oi) n b w).mono λe w' ⟨d,j⟩=>⟨_,[_,_],noX,d,rfl,rfl,?_,(λh=>om),j6,A1J (ARE b) _⟩;rcases j with rfl|⟨t,rfl⟩
  .exact Below.refl _ _
  .exact ARC _ _ _
 .rw[b]at a;dsimp only at a;cases a;exact(tw ⟨v.toArray⟩ p b z w B l).mono λe w' ⟨N,d,_,_,j⟩=>⟨_,[_,_],noX,d,rfl,rfl,j,(λh=>om),j6,A1J (DB oi oi) _⟩
 .rw[b]at a;dsimp only at a;cases a;exact(ua ⟨v.toArray⟩ p b A w C m).mono λe w' ⟨N,d,_,_,j⟩=>⟨_,[_,_],noX,d,rfl,rfl,j,(λh=>om),j6,A1J (ARF v) _⟩
theorem ARG{P:Program}{X:Nat->Nat->Prop}{cap:Nat}{xs:KX DO}{fz:Nat×Nat}(p:w.heap[b]?=some (.cells cells el fz))(a:xs.length<=cap)(z:xs.length<=281474976710656)
 (s:∀(i:Nat) x,xs[i]?=some x->cells[i]?=some (.string ⟨x.toArray⟩))(A:∀x∈xs,x.length<=281474976710656)(C:∀o,o<xs.length->X b o):
 Z4 w (imNew I X) (.slice .str) xs (.slice (some ⟨b,0,none⟩) xs.length cap):=by
 refine⟨_,rfl,_,_,rfl,⟨a,z⟩,(λh=>om),λB d=>?_⟩;cases d;refine⟨λ_=>rfl,λi x m=>⟨[.string ⟨(show DO from x).toArray⟩],⟨rfl,λj y=>?_⟩,rfl,A x (AE m)⟩⟩;have l:j=0:=by have:j<1:=y;omega
 subst l;have e:(0+i*Ty.str.sz+0)=i:=by show 0+i*1+0=i;omega
 have hi:i<xs.length:=(A3.1 m).1;refine⟨.inr ?_,?_⟩
 .grind
 .show w.cell? ⟨b,0+i*Ty.str.sz+0,none⟩=_;rw[e];simp only[World.cell?,p,s i x m];rfl
theorem ARH(sep:X3)(b:1<=sep.size):∀(k:Nat) (s:X3),Lib.countB s sep=k->(Lib.splitB sep 0 k s).length=k+1:=by
 intro k;induction k with
 |zero=>intro s _;rfl
 |succ k a=>
  intro s hk;by_cases d:Lib.indexB s sep= -1
  .grind[Lib.countB_miss]
  .have h:=Lib.index_ge s.data.toList sep.data.toList;obtain⟨i,hi⟩:∃i:Nat,Lib.indexB s sep=i:=⟨(Lib.indexB s sep).toNat,oc⟩;rw[Lib.splitB_hit sep 0 k s i hi,BO,a];grind[Lib.countB_hit]
theorem ARI(sep:X3)(n:Nat):∀(k:Nat) (s:X3),s.size<=n->∀x∈Lib.splitB sep 0 k s,x.size<=n:=by
 intro k;induction k with
 |zero=>grind[Lib.splitB_zero,List.mem_singleton]
 |succ k b=>
  intro s a x h;unfold Lib.splitB at h;split at h
  .grind
  .rcases B1.1 h with rfl|h
   .rw[CL];omega
   grind[ByteArray.size_extract]
def ARJ:Q2:=⟨[.val .str,.val .str],[.own 9 .str false],strings_Split,true⟩
theorem A9C:FJ Go.Proofs.Tryz.prog 203/\Z9 Go.Proofs.Tryz.prog 203 ARJ:=by
 refine⟨W6 Tryz.func203 oe oe,λw I v K bs B J W r H=>?_⟩;obtain⟨rfl,x,y,rfl,l,X⟩:=R0 J;obtain⟨rfl,h0⟩:=PH l;obtain⟨rfl,Y⟩:=PH X;have⟨⟨M,T⟩,H⟩:=OX H;cases H;have⟨m,G⟩:=(facts B).2.2.2.1;have s:1<=(⟨Array.mk v.2⟩:X3).size:=T;have a:=ARH ⟨Array.mk v.2⟩ s _ ⟨Array.mk v.1⟩ rfl;refine(uq ⟨v.1.toArray⟩ ⟨v.2.toArray⟩ m w (cQ M) G s).mono λe w' ⟨V,O⟩=>?_;obtain⟨L,j⟩:∃L,L=Lib.splitB ⟨v.2.toArray⟩ 0 (Lib.countB ⟨v.1.toArray⟩ ⟨v.2.toArray⟩) ⟨v.1.toArray⟩:=⟨_,rfl⟩;have z:∀b∈L,b.size<=v.1.length:=λb p=>ARI ⟨v.2.toArray⟩ v.1.length _ ⟨v.1.toArray⟩ (Nat.le_of_eq (OR v.1)) b (j▸p);have A:w'.heap[w.heap.size]?=some (.cells (L.map Value.string).toArray 9 (0,0)):=by rw[O,j];show(w.heap.push _)[w.heap.size]?=_;rw[D7]
 have D:Below w.heap.size w w':=by rw[O];exact(Below.refl _ _).alloc (AD _) _
 have N:Lib.countB ⟨v.1.toArray⟩ ⟨v.2.toArray⟩<=v.1.length+1:=Lib.count_le v.1 v.2;have R:v.1.length<4294967281:=M;have a:L.length=Lib.countB ⟨v.1.toArray⟩ ⟨v.2.toArray⟩+1:=by rw[j];exact a
 have C:L.length<=281474976710656:=oa;have d:(L.map λb=>b.data.toList).length=L.length:=AZ ..;have U:∀b o,(b=w.heap.size/\o<L.length)->w.heap.size<=b/\b<w'.heap.size:=by rintro b o ⟨rfl,_⟩;exact⟨AD _,A97 A⟩
 refine⟨_,[_],imNew I λb o=>b=w.heap.size/\o<L.length,[w.heap.size],V,rfl,rfl,Q5.below B D U,⟨_,rfl,.inr ⟨w.heap.size,Lib.countB ⟨v.1.toArray⟩ ⟨v.2.toArray⟩+1,(L.map Value.string).toArray,?_,rfl,?_,.of A,?_,?_,(λh=>om),λ_ o=>?_,λh=>AA _ (B.2.1 _ h)⟩⟩,oh,λk hk=>.inr oc,λ_=>by simp_all⟩
 .rw[<-j];show [Value.slice _ _ _]=[Value.slice _ (L.map λb=>b.data.toList).length _];rw[d,a]
 .rw[<-j];show IZ (L.map λb=>b.data.toList).length _;exact⟨AM (Nat.le_of_eq d) (Nat.le_of_eq a),AM (Nat.le_of_eq d) C⟩
 .show(L.map Value.string).toArray.size=_*1;simp[a]
 .rw[<-j];intro i x l;have l:(L.map λb=>b.data.toList)[i]?=some x:=l;rw[AS]at l;cases p:L[i]? with
  |none=>grind
  |some b=>
   rw[p]at l;cases l;have E:=(A3.1 p).1;have Q:(((L.map Value.string).toArray.toList.drop (i*Ty.str.sz)).take Ty.str.sz)=[.string b]:=by show((L.map Value.string).drop (i*1)).take 1=_;rw[CI,BL (by simpa using E)];simp[(A3.1 p).2]
   rw[Q];refine⟨by cases b;simp,?_⟩;have Z:=z b (AE p);have e:b.data.toList.length=b.size:=rfl;grind
 .rw[<-j];show o<(L.map λb=>b.data.toList).length*1<->_;rw[d,CI];exact⟨λh=>.inr ⟨rfl,h⟩,λh=>h.elim (λh=>absurd (B.1 _ _ h) (AA _)) λh=>h.2⟩
theorem ARK{xs:KX DO}{v:X2}(h:Z4 w I (.slice .str) xs v):
 (∃a d,v=.slice a 0 d/\xs=[])\/∃b o d,v=.slice (some ⟨b,o,none⟩) xs.length d/\b<w.heap.size/\xs.length<=d/\
  ∀(j:Nat) x,xs[j]?=some x->w.cell? ⟨b,o+j,none⟩=some (.string ⟨x.toArray⟩)/\x.length<=281474976710656:=by
 obtain⟨c,p,a,d,m,y,K,A⟩:=h;have p:c=[v]:=p;rw[p]at m;have m:v=.slice a xs.length d:=AB.1 m;by_cases z:xs=[]
 .grind
 .right;cases a with
  |none=>grind
  |some s=>
   have⟨e,B⟩:=A s rfl;obtain⟨b,o,H⟩:=s;have e:(⟨b,o,H⟩:Addr).spot=none:=e λh0=>z (AK (Nat.le_zero.1 (h0▸y.1)));cases e;have key:∀(j:Nat) x,xs[j]?=some x->w.cell? ⟨b,o+j,none⟩=some (.string ⟨x.toArray⟩)/\x.length<=281474976710656:=by intro j x C;have⟨J,⟨k1,D⟩,E,G⟩:=B j x C;have:=(D 0 Nat.one_pos).2;rw[E]at this;exact⟨oc,G⟩
   have l:0<xs.length:=List.length_pos_iff.2 z;exact⟨b,o,d,m,cP (key 0 xs[0] (A1 l)).1,y.1,key⟩
def ARL:Q2:=⟨[.val (.slice .str),.val .str],[.val .str],strings_Join,false⟩
theorem cT:FJ Go.Proofs.Tryz.prog 206/\Z9 Go.Proofs.Tryz.prog 206 ARL:=by
 refine⟨W6 Tryz.func206 oe oe,Z9.flat1 (t:=.str) rfl rfl (λd=>by rcases d with _|⟨_,_|⟨_,_⟩⟩<;>rfl) λw I v d bs O D r C=>?_⟩;obtain⟨rfl,x,y,rfl,J,L⟩:=R0 D;obtain⟨rfl,M⟩:=PH L;have⟨⟨N,G⟩,C⟩:=OX C;cases C;obtain⟨s,sep⟩:KX DO×DO:=v;have G:(Lib.join s sep).length<=140737488355328:=G;have l:(Lib.join s sep).length<=281474976710656:=oa
 rcases ARK J with⟨a,m,rfl,p⟩|⟨b,o,m,rfl,K,H,z⟩
 .have p:s=[]:=p;subst p;have e:Lib.join [] sep=[]:=by simp[Lib.join,List.intercalate]
  refine⟨rfl,.string ⟨(Lib.join [] sep).toArray⟩,λw' I'=>NW (OK l),?_⟩;rw[e];exact(uh a m ⟨sep.toArray⟩ w).mono λe w' ⟨A,E⟩=>⟨A,UY E⟩
 .refine⟨rfl,.string ⟨(Lib.join s sep).toArray⟩,λw' I'=>NW (OK l),?_⟩;have B:(s.map λx=>(⟨x.toArray⟩:X3)).map (λb=>b.data.toList)=s:=by rw[List.map_map];exact List.map_id _
  have:=uv b o m (s.map λx=>⟨x.toArray⟩) ⟨sep.toArray⟩ w (λj x J=>by grind) K oc oc oc;rw[B,AZ]at this;exact this.mono λe w' ⟨A,E⟩=>⟨A,E,λh=>om⟩
theorem Q5.toBelow{gv:Nat->Prop}{I':Im}(h:Q5 gv w I w' I')(d:∀b,¬gv b):Below w.heap.size w w':=
 ⟨h.os,h.tape,h.output,h.size,λb a=>h.heap b a (d b)⟩
theorem ARM(a:I4 w I)(d:Below w.heap.size w w'):Ext w I w' I/\I4 w' I:=by have e:Ext w I w' I:=⟨λb o h=>⟨h,by simp only[World.cell?,d.block b (a.1 b o h)]⟩,λb h=>⟨h,d.block b (a.2.1 b h)⟩⟩;exact⟨e,λb o h=>AQ (a.1 b o h) d.size,λb h=>AQ (a.2.1 b h) d.size,a.2.2.ext e⟩
theorem ARN{g:Nat}(h:FJ P g):∀a w,(callFunc g a).run P w=.ok (.enter g a) w:=by obtain⟨fn,c,b,d,e⟩:=h;simp_all[callFunc]
theorem ARO(p:Nat->X5)(s:X3):∀x∈Lib.goFieldsP p s,x.size<=s.size:=by intro x h;obtain⟨q,_,rfl⟩:=BP.1 h;rw[CL];omega
def ARP:Q2:=⟨[.val .str,.hof false (.int .i32) .bool],[.val (.slice .str)],WE,false⟩
theorem ARQ:FJ Go.Proofs.Tryz.prog 234/\Z9 Go.Proofs.Tryz.prog 234 ARP:=by
 refine⟨W6 Tryz.func234 oe oe,Z9.given λw I v K bs T H r m=>?_⟩;obtain⟨Y,vs,b1,b2,rfl,rfl,⟨d,rfl⟩,Z,rfl,rfl,g,M,B,p,hof⟩:=H;obtain⟨rfl,h0⟩:=PH d;obtain rfl:=AB.1 B;obtain⟨s,F⟩:DO×(Int->X1 X5):=v;have m:WE (s,F)=some r:=m;unfold WE at m;have⟨⟨h1,Q,h3⟩,m⟩:=OX m;cases m;have U:PredGrows Tryz.prog g M (λr=>(F (r:Int)).getD false) w:=by intro W x d j;have⟨D,E⟩:=ARM T j;have⟨b,a⟩:=Q x d;have a:F (x:Int)=some b:=a;have:=hof W I D E (x:Int) [.int .i32 x] ⟨_,rfl,l4 ⟨by show(-2147483648:Int)<=_;omega,by show _<=(2147483647:Int);omega⟩⟩ b a;refine this.mono λe X ⟨rv,I'',k1,L,J,_⟩=>?_;have G:=AQq J;subst G;show e=.returned (.bool ((F (x:Int)).getD false))/\_;rw[a];exact⟨k1,Q5.toBelow L λ_ h=>h⟩
 have:=Any.strings_FieldsFunc_grows ws g M (ARN p) (λr=>(F (r:Int)).getD false) ⟨s.toArray⟩ w (by assumption) U oe oe;refine⟨rfl,this.mono λe w' ⟨A,D,hA,y,C⟩=>?_⟩;obtain⟨_,R|⟨O,z,N,k1,L,J,k4,k5,k6,V⟩⟩:=y
 .cases R.1
 .obtain⟨rfl,rfl⟩:A=O/\(Lib.goFieldsP (λr=>(F (r:Int)).getD false) ⟨s.toArray⟩).length=z:=oc;refine⟨_,[_],λb o=>b=A,D,rfl,rfl,C,(λh=>om),?_,NW ?_⟩
  .grind
  .have:=ARG (P:=Tryz.prog) (I:=I) (X:=λb o=>b=A) (xs:=(Lib.goFieldsP (λr=>(F (r:Int)).getD false) ⟨s.toArray⟩).map λb=>b.data.toList)
    (cap:=(Lib.goFieldsP (λr=>(F (r:Int)).getD false) ⟨s.toArray⟩).length) J oh oc ?_ ?_ (λo _=>rfl)
   .grind
   .intro i x d;rw[AS]at d;cases j:(Lib.goFieldsP (λr=>(F (r:Int)).getD false) ⟨s.toArray⟩)[i]? with
    |none=>grind
    |some b=>rw[j]at d;cases d;have hi:=(A3.1 j).1;have:=congrArg (λl=>l[i]?) V;simp only[B0,AS,j]at this;simp_all
   .intro x d;obtain⟨b,j,rfl⟩:=BP.1 d;have:=ARO _ ⟨s.toArray⟩ b j;rw[OR]at this;have e:b.data.toList.length=b.size:=rfl;rw[e];exact AM this h0
theorem A9D(h:Lay Tryz.prog (.agg GT) el):el=298:=by have a:((List.range Tryz.prog.types.size).all λi=>!(W5 Tryz.prog (.agg GT)).1 i||Nat.beq i 298)=true:=oe;have b:el<Tryz.prog.types.size:=AFz h.inf rfl;have d:=BW.1 a el (CC.2 b);have e:(W5 Tryz.prog (.agg GT)).1 el=true:=h;simp_all
theorem ARR(b:Nat)(w:X4)(h0:w.cell? ⟨b,0,none⟩=some (.pointer (some ⟨b,0,none⟩))):
 Calls Tryz.prog 237 #[.pointer (some ⟨b,0,none⟩)] w λe w'=>e=.returned (.tuple #[])/\w'=w:=by
 have m:Tryz.prog.follows .mixedOrders=true:=oe;have p:=Tryz.underlying298;have d:=Tryz.isAgg298;have B:=Tryz.sizeOf298;have z:=Tryz.zeroValue298;have x:=run_underlying Tryz.underlying298;have l:=Tryz.underlying295;have a:=Tryz.isAgg295;have A:=Tryz.sizeOf295;have y:=Tryz.zeroValue295;have s:=run_underlying Tryz.underlying295;have D:=Tryz.underlying4;have C:=Tryz.isAgg4;have H:=Tryz.sizeOf4;have G:=Tryz.zeroValue4;have E:=run_underlying Tryz.underlying4;have⟨j,h,_⟩:=Option.map_eq_some_iff.1 (show(Tryz.prog.info? 298).map (·.size)=some 2 by kernel_rfl);go_enter Tryz.func237,Tryz.ntmps237;go_wp2;rw[Lib.run_neq_ptr_same w _ Tryz.underlying295 h];go_wp2
 go_end0
 simp
theorem ARS(b:Nat)(w:X4)(h0:w.cell? ⟨b,0,none⟩=some (.pointer none))(h:w.shape? b=some (298,2))(B:w.frozen? ⟨b,0,none⟩=false):
 Calls Tryz.prog 237 #[.pointer (some ⟨b,0,none⟩)] w λe w'=>e=.returned (.tuple #[])/\w'=w.setCell ⟨b,0,none⟩ (.pointer (some ⟨b,0,none⟩)):=by
 have⟨j,l,a⟩:=Option.map_eq_some_iff.1 (show(Tryz.prog.info? 298).map (·.size)=some 2 by kernel_rfl);have m:Tryz.prog.follows .mixedOrders=true:=oe;have D:=Tryz.underlying298;have A:=Tryz.isAgg298;have K:=Tryz.sizeOf298;have I:=Tryz.zeroValue298;have G:=run_underlying Tryz.underlying298;have C:=Tryz.underlying295;have y:=Tryz.isAgg295;have J:=Tryz.sizeOf295;have H:=Tryz.zeroValue295;have E:=run_underlying Tryz.underlying295;have M:=Tryz.underlying4;have L:=Tryz.isAgg4;have Q:=Tryz.sizeOf4;have O:=Tryz.zeroValue4;have N:=run_underlying Tryz.underlying4;have p:=Tryz.underlying445;have d:=Tryz.isAgg445;have z:=Tryz.sizeOf445;have x:=Tryz.zeroValue445;have s:=run_underlying Tryz.underlying445;go_enter Tryz.func237,Tryz.ntmps237;go_wp2;rw[Lib.run_to_unsafe w ⟨b,0,none⟩ Tryz.underlying295 Tryz.underlying445 l (by rw[a];decide) h (Nat.zero_lt_succ 1)];simp only[Result.andThen];rw[Oper.upon_value];go_wp2;rw[run_callFunc_extern Tryz.func290 oe oe oe (e:=Extern.AbiNoEscape.same) oe];rw[Lib.run_noEscape];simp only[Result.andThen];rw[Oper.upon_value];go_wp2;rw[Lib.run_from_unsafe w ⟨b,0,none⟩ Tryz.underlying445 Tryz.underlying295 l h oe];simp only[Result.andThen];rw[Oper.upon_value];go_wp2
 go_end0
 simp
theorem A9E{p q:X2}{fz:Nat×Nat}(a:w.heap[b]?=some (.cells cells el fz))(h:cells.toList=[p,q]):
 w.cell? ⟨b,0,none⟩=some p/\w.cell? ⟨b,1,none⟩=some q:=by
 have:cells= #[p,q]:=by apply C9;exact h
 grind[World.cell?]
theorem ART(b g cap:Nat)(l:KX UInt8)(w:X4)(a:Array X2)(fz:Nat×Nat)(N:w.cell? ⟨b,1,none⟩=some (.slice (some ⟨g,0,none⟩) l.length cap))(h0:l≠[])
 (y:w.heap[g]?=some (.cells a 5 fz))(m:l.length<=cap)(s:a.size=cap)(p:l.length<=281474976710656)(B:∀(j:Nat) x,l[j]?=some x->a[j]?=some (.int .u8 x.toNat)):
 Calls Tryz.prog 160 #[.pointer (some ⟨b,0,none⟩)] w λe w'=>e=.returned (.string ⟨l.toArray⟩)/\w'=w.drew.freeze ⟨g,0,none⟩ l.length:=by
 have Q:l.length≠0:=by simpa using h0
 have c1:w.drew.cell? ⟨b,1,none⟩=some (.slice (some ⟨g,0,none⟩) l.length cap):=N
 have K:(Builtin.unsafeSliceData_ #[296] 383 #[.slice (some ⟨g,0,none⟩) l.length cap]).run Tryz.prog w.drew=.ok (.pointer (some ⟨g,0,none⟩)) w.drew:=
  Lib.run_unsafeSliceData_row _ _ _ _ _ _ oa
 have L:(Builtin.unsafeString_ #[383,3] 9 #[.pointer (some ⟨g,0,none⟩),.int .i64 l.length]).run Tryz.prog w.drew=.ok (.string ⟨l.toArray⟩) (w.drew.freeze ⟨g,0,none⟩ l.length):=by
  refine Lib.run_unsafeString_row w.drew 383 3 9 5 Tryz.underlying383 oe g a.size (by have d:w.drew.heap[g]?=some (.cells a 5 fz):=y;simp[World.shape?,d]) l h0 oa oa ?_;intro j x O;have d:w.drew.heap[g]?=some (.cells a 5 fz):=y;have M:(⟨g,0,none⟩:Addr).add j=⟨g,j,none⟩:=by simp[Addr.add];exact λh=>h.symm
  rw[M];simp only[World.cell?,d,B j x O];rfl
 clear B s y m p h0;have z:Tryz.prog.follows .mixedOrders=true:=oe;have U:=Tryz.underlying298;have J:=Tryz.isAgg298;have h4:=Tryz.sizeOf298;have h1:=Tryz.zeroValue298;have X:=run_underlying Tryz.underlying298;have T:=Tryz.underlying295;have I:=Tryz.isAgg295;have h3:=Tryz.sizeOf295;have Z:=Tryz.zeroValue295;have W:=run_underlying Tryz.underlying295;have R:=Tryz.underlying296;have H:=Tryz.isAgg296;have h2:=Tryz.sizeOf296;have Y:=Tryz.zeroValue296;have V:=run_underlying Tryz.underlying296;have C:=Tryz.underlying383;have A:=Tryz.isAgg383;have G:=Tryz.sizeOf383;have E:=Tryz.zeroValue383;have D:=run_underlying Tryz.underlying383;have t3:=Tryz.underlying3;have a3:=Tryz.isAgg3;have z3:=Tryz.sizeOf3;have v3:=Tryz.zeroValue3;have u3:=run_underlying Tryz.underlying3;have t9:=Tryz.underlying9;have a9:=Tryz.isAgg9;have z9:=Tryz.sizeOf9;have v9:=Tryz.zeroValue9;have u9:=run_underlying Tryz.underlying9;have t5:=Tryz.underlying5;have a5:=Tryz.isAgg5;have z5:=Tryz.sizeOf5;have v5:=Tryz.zeroValue5;have u5:=run_underlying Tryz.underlying5;go_enter Tryz.func160,Tryz.ntmps160;go_wp2
 go_region_o
 all_goals (go_wp2;go_ret;simp)
theorem ARU(b g:Nat)(w:X4)(a:Array X2)(fz:Nat×Nat)(h:w.cell? ⟨b,1,none⟩=some (.slice (some ⟨g,0,none⟩) 0 0))(H:w.heap[g]?=some (.cells a 5 fz)):
 Calls Tryz.prog 160 #[.pointer (some ⟨b,0,none⟩)] w λe w'=>e=.returned (.string ⟨#[]⟩)/\Below w.heap.size w w':=by
 have G:∀(W:X4) (q:X1 Addr),(Builtin.unsafeString_ #[383,3] 9 #[.pointer q,.int .i64 0]).run Tryz.prog W=.ok (.string .empty) W:=λW q=>Lib.run_unsafeString_none W _ _ _ q;have j:=cP h;have c1:w.drew.cell? ⟨b,1,none⟩=some (.slice (some ⟨g,0,none⟩) 0 0):=h
 have E:(Builtin.unsafeSliceData_ #[296] 383 #[.slice (some ⟨g,0,none⟩) 0 0]).run Tryz.prog w.drew=.ok (.pointer (some ⟨w.drew.heap.size,0,none⟩)) (w.drew.alloc (.view ⟨g,0,none⟩ 5)):=
  Lib.run_unsafeSliceData_zero w.drew _ _ 5 Tryz.underlying383 ⟨g,0,none⟩ 0 (5,a.size) (by have d:w.drew.heap[g]?=some (.cells a 5 fz):=H;simp[World.shape?,d])
 have p:Below w.heap.size w (w.drew.alloc (.view ⟨g,0,none⟩ 5)):=(Below.drew (Below.refl _ w)).alloc (AD _) _;have D:(w.drew.alloc (.view ⟨g,0,none⟩ 5)).cell? ⟨b,1,none⟩=some (.slice (some ⟨g,0,none⟩) 0 0):=(p.cell j).trans h;have c3:(w.alloc (.view ⟨g,0,none⟩ 5)).drew.cell? ⟨b,1,none⟩=some (.slice (some ⟨g,0,none⟩) 0 0):=D;have m:Tryz.prog.follows .mixedOrders=true:=oe;have K:=Tryz.underlying298;have C:=Tryz.isAgg298;have V:=Tryz.sizeOf298;have R:=Tryz.zeroValue298;have N:=run_underlying Tryz.underlying298;have J:=Tryz.underlying295;have B:=Tryz.isAgg295;have U:=Tryz.sizeOf295;have Q:=Tryz.zeroValue295;have M:=run_underlying Tryz.underlying295;have I:=Tryz.underlying296;have A:=Tryz.isAgg296;have T:=Tryz.sizeOf296;have O:=Tryz.zeroValue296;have L:=run_underlying Tryz.underlying296;have s:=Tryz.underlying383;have l:=Tryz.isAgg383;have z:=Tryz.sizeOf383;have y:=Tryz.zeroValue383;have x:=run_underlying Tryz.underlying383;have t3:=Tryz.underlying3;have X:=Tryz.isAgg3;have z3:=Tryz.sizeOf3;have v3:=Tryz.zeroValue3;have u3:=run_underlying Tryz.underlying3;have t9:=Tryz.underlying9;have Z:=Tryz.isAgg9;have z9:=Tryz.sizeOf9;have v9:=Tryz.zeroValue9;have u9:=run_underlying Tryz.underlying9;have t5:=Tryz.underlying5;have Y:=Tryz.isAgg5;have z5:=Tryz.sizeOf5;have v5:=Tryz.zeroValue5;have u5:=run_underlying Tryz.underlying5;go_enter Tryz.func160,Tryz.ntmps160;go_wp2
 go_region_o
 all_goals (go_wp2;go_ret;exact⟨rfl,p⟩)
theorem Q5.only(a:I4 w I){bs:KX Nat}(s:b∈bs)(z:∀o,¬I.cell b o)(p:¬I.obj b)(l:∀k,k≠b->w'.heap[k]?=w.heap[k]?)(j:w'.heap.size=w.heap.size)
 (d:w'.os=w.os)(y:w'.tape=w.tape)(x:w'.output=w.output):Q5 (·∈bs) w I w' I:=by
 have m:Ext w I w' I:=⟨λk o h=>⟨h,by grind[World.cell?]⟩,λk h=>⟨h,l k (λe=>p (e▸h))⟩⟩;exact⟨m,λk _ hk=>l k (λe=>hk (e▸s)),Nat.le_of_eq j.symm,λ_ _ h=>.inl h,λ_ h=>.inl h,λk o h=>j▸a.1 k o h,λk h=>j▸a.2.1 k h,d,y,x,a.2.2.ext m⟩
theorem ARV{o:Nat}{v:X2}{k:Nat}(h:k≠b):(w.setCell ⟨b,o,none⟩ v).heap[k]?=w.heap[k]?:=Below.heap_setCell w ⟨b,o,none⟩ v k h
def ARW:Q2:=⟨[.R9 5 false],[],gC,false⟩
theorem A9F:FJ Go.Proofs.Tryz.prog 237/\Z9 Go.Proofs.Tryz.prog 237 ARW:=by
 refine⟨W6 Tryz.func237 oe oe,λw I v K bs M s m r U=>?_⟩;cases U;obtain⟨v1,rfl,b,cells,el,p,q,d,O,rfl,x,a,y,T,B,C,z⟩:=s;obtain rfl:=AB.1 O;obtain rfl:=A9D a;have⟨c0,c1⟩:=A9E x y;have j:=AY.1 m;rcases T with rfl|rfl
 .have s:w.shape? b=some (298,2):=by
   have:cells.size=2:=by rw[<-BD,y];rfl
   simp[World.shape?,x,this]
  refine(ARS b w c0 s (by simp[World.frozen?,x])).mono λe w' ⟨G,l⟩=>?_;have L:∀k,k≠b->w'.heap[k]?=w.heap[k]?:=λk hk=>by rw[l];exact ARV hk
  have V:w'.heap.size=w.heap.size:=by rw[l];simp[World.setCell]
  have E:w'.heap[b]?=some (.cells #[.pointer (some ⟨b,0,none⟩),q] 298 (0,0)):=by
   have R:cells= #[.pointer none,q]:=by apply C9;exact y
   subst R;rw[l];simp only[World.setCell,Array.getElem?_modify,x];simp
  refine⟨_,[],I,b::d,G,rfl,rfl,Q5.only M AF B C L V (by rw[l];rfl) (by rw[l];rfl) (by rw[l];rfl),?_,m,λb D=>.inl D,λh=>om⟩;refine⟨_,rfl,b,_,298,_,q,d,rfl,rfl,E,a,rfl,.inr rfl,B,C,?_⟩;rcases z with z|⟨g,A,Q,k1,N,W,⟨fz,X,J⟩,Y,k6,Z,k8⟩
  .exact .inl z
  .have H:g≠b:=by rw[N]at j;intro e;exact j.1 oc
   refine .inr ⟨g,A,Q,k1,N,W,⟨fz,(L g H).trans X,J⟩,Y,?_,Z,k8⟩;assumption
 .refine(ARR b w c0).mono λe w' ⟨G,l⟩=>?_;subst l;refine⟨_,[],I,b::d,G,rfl,rfl,Q5.refl M,?_,m,λb D=>.inl D,λh=>om⟩;exact⟨_,rfl,b,cells,298,_,q,d,rfl,rfl,x,a,y,.inr rfl,B,C,z⟩
theorem ARX{k:Nat}(h:k≠b):(w.freeze ⟨b,0,none⟩ n).heap[k]?=w.heap[k]?:=by unfold World.freeze;grind
theorem ARY{a:Addr}:(w.freeze a n).heap.size=w.heap.size:=by grind[World.freeze]
theorem ARZ{a:Addr}:(w.freeze a n).os=w.os/\(w.freeze a n).tape=w.tape/\(w.freeze a n).output=w.output:=by unfold World.freeze;grind
theorem AR_{xs:KX Int}(h:∀x∈xs,F_ .u8 x):xs=FZ (IY xs):=by
 unfold FZ IY;rw[List.map_map];conv=>lhs;rw[<-List.map_id xs]
 refine List.map_congr_left λx a=>?_;have b:0<=x/\x<=255:=h x a;grind[UInt8.ofNat,UInt8.toNat_ofNat']
def ARa:Q2:=⟨[.R9 5 true],[.val .str],QC,false⟩
theorem UZ:FJ Go.Proofs.Tryz.prog 160/\Z9 Go.Proofs.Tryz.prog 160 ARa:=by
 refine⟨W6 Tryz.func160 oe oe,λw I v V bs Z N M r hr=>?_⟩;cases hr;obtain⟨v1,rfl,b,cells,el,p,q,B,C,rfl,K,E,W,hp,h4,h5,h6⟩:=N;obtain rfl:=AB.1 C;obtain rfl:=A9D E;have⟨c0,c1⟩:=A9E K W;have h3:=AY.1 M;have z:cells= #[p,q]:=by apply C9;exact W
 subst z
 have a:∀(w':X4) (e:Ending),(show KX Int from v)=[]->e=.returned (.string ⟨#[]⟩)->Below w.heap.size w w'->∃rv U I' m,e=.returned rv/\U.length=1/\MK U rv/\Q5 (·∈b::B) w I w' I'/\
  R2 Tryz.prog w' I' [.val .str] (IY v) (U++[]) m/\m.Nodup/\(∀k∈m,k∈b::B\/w.heap.size<=k)/\(false=true->w.drawn<=w'.drawn):=by
  intro w' e O A y;refine⟨_,[_],imNew I noX,[],A,rfl,rfl,(Q5.below Z y j6).mono (λk hk=>by cases hk),?_,.nil,(λk hk=>by cases hk),λh=>om⟩;have:IY v=[]:=by have O:v=([]:KX Int):=O;rw[O];rfl
  rw[this];exact NW (OK (x:=[]) oi)
 rcases h6 with⟨rfl,k1,k2⟩|⟨g,s,D,rfl,k2,J,⟨fz,k4,h7⟩,T,k6,k7,k8⟩
 .exact(Any.Builder_String_nil vy ud w.heap.size b p w K).mono λe w' ⟨A,y⟩=>a w' e k1 A y
 .obtain⟨d,R⟩:∃d:KX Int,d=v:=⟨v,rfl⟩;subst R;have J:IZ d.length s:=J;have T:D.size=s:=by rw[T];exact CI _
  by_cases h0:d=[]
  .subst h0;by_cases X:s=0
   .subst X;exact(ARU b g w D fz c1 k4).mono λe w' ⟨A,y⟩=>a w' e rfl A y
   .exact(Any.Builder_String_room vy ud w.heap.size b g s p w X K).mono λe w' ⟨A,y⟩=>a w' e rfl A y
  .have G:∀(j:Nat) x,d[j]?=some x->D[j]?=some (.int .u8 x)/\F_ .u8 x:=by intro j x Q;have⟨C,e2⟩:=k6 j x Q;refine⟨?_,e2⟩;have C:((D.toList.drop (j*1)).take 1)=[.int .u8 x]:=C;have:=congrArg (λl=>l[0]?) C;simpa using this
   have hk:∀x∈d,F_ .u8 x:=λx Q=>let ⟨j,Y⟩:=BR Q;(G j x Y).2
   have y:d=FZ (IY d):=AR_ hk;have L:(IY d).length=d.length:=by simp[IY]
   refine(ART b g s (IY d) w D fz oc (λe=>h0 (by rw[y,e];rfl)) k4 (by rw[L];exact J.1) T (by rw[L];exact J.2) (λj x Y=>?_)).mono λe w' ⟨A,H⟩=>?_
   .grind[FZ]
   .obtain⟨o1,o2,o3⟩:=ARZ (w:=w.drew) (a:=⟨g,0,none⟩) (n:=(IY d).length);refine⟨_,[_],I,[],A,rfl,rfl,Q5.only Z (b:=g) (by rw[k2];simp) k7 k8 (λk hk=>by rw[H];exact ARX hk) (by rw[H];exact ARY) (by rw[H];exact o1) (by rw[H];exact o2) (by rw[H];exact o3),?_,.nil,(λk hk=>by cases hk),λh=>om⟩;exact NW (OK (by rw[L];exact J.2))
variable{α:Type}{cs cells:Array X2}{el b:Nat}{fz:Nat×Nat}{os:Array Go.Obj}{w:X4}{xs:KX Int}
variable [CB]
open Go.Sort Go.Shelf
theorem ARb{P:Program}{g:Nat}(h:FJ P g):∀a w,(callFunc g a).run P w=.ok (.enter g a) w:=by obtain⟨fn,c,b,d,e⟩:=h;simp_all[callFunc]
theorem A9G [Inhabited α](enc:α->X2)(w:X4)(b off:Nat)(d:Array α)(k:Nat)(h:k≠b):(putRow enc w b off d).heap[k]?=w.heap[k]?:=by simp only[putRow,mapBlock,Array.getElem?_modify];grind
theorem A9H [Inhabited α](enc:α->X2)(w:X4)(b off:Nat)(d:Array α){el:TypeId}(h:w.heap[b]?=some (.cells cs el fz)):
 (putRow enc w b off d).heap[b]?=some (.cells (putCells enc off d cs) el fz):=by
 simp_all[putRow,mapBlock,Array.getElem?_modify,onCells]
theorem qD(w:X4)(os:Array Go.Obj)(k:Nat)(h:k<w.heap.size):(grow w os).heap[k]?=w.heap[k]?:=by grind[grow,Array.getElem?_append_left]
section
variable{P:Program}{w:X4}{I:Im}
theorem A9I [Inhabited α]{enc:α->KX X2}{k:Nat}{n:Nat}{D:Array α}{el:TypeId}(d:w.heap[b]?=some (.cells cs el fz)):
 (sortWorldK enc k w b 0 n D os).heap[b]?=some (.cells (putCells id 0 (flatK enc k D) cs) el fz)/\(∀j,j≠b->j<w.heap.size->(sortWorldK enc k w b 0 n D os).heap[j]?=w.heap[j]?)/\
 w.heap.size<=(sortWorldK enc k w b 0 n D os).heap.size/\(sortWorldK enc k w b 0 n D os).drawn=w.drawn+n:=by
 have a:b<w.heap.size:=(B6.1 d).1;unfold sortWorldK putRowK;refine⟨?_,λj e h=>?_,?_,rfl⟩
 .rw[qD _ _ _ (by simpa using a)];exact A9H id _ b 0 _ d
 .rw[qD _ _ _ (by simpa using h)];exact A9G id _ b 0 _ j e
 .simp
theorem A9J [Inhabited α]{enc:α->KX X2}{k:Nat}{n:Nat}{D:Array α}{el:TypeId}(x:w.heap[b]?=some (.cells cs el fz))
 (a:I4 w I)(p:∀o,¬I.cell b o)(s:¬I.obj b):Ext w I (sortWorldK enc k w b 0 n D os) I/\I4 (sortWorldK enc k w b 0 n D os) I:=by
 have⟨y,d,l,z⟩:=A9I (enc:=enc) (k:=k) (n:=n) (D:=D) (os:=os) x;have m:Ext w I (sortWorldK enc k w b 0 n D os) I:=⟨λj o h=>⟨h,by simp only[World.cell?,d j (λe=>p o (e▸h)) (a.1 j o h)]⟩,λj h=>⟨h,d j (λe=>s (e▸h)) (a.2.1 j h)⟩⟩;exact⟨m,λj o h=>AQ (a.1 j o h) l,λj h=>AQ (a.2.1 j h) l,a.2.2.ext m⟩
theorem A1K{ρ:Ren}{f:Nat}{p:Ty}(L:SlLaysF0.n6 P ρ)(hf:ρ.f 6=f)(aE:∀w,(isAgg (ρ.t 24)).run P w=.ok true w)(zE:∀w,(Go.sizeOf (ρ.t 24)).run P w=.ok p.sz w)(hp:0<p.sz):
 Z9 P f ⟨[.io el (.agg p),.hof true (.prod (.agg p) (.agg p)) (.int .i64)],[],λv=>O9 v.1 v.2,true⟩:=by
 subst hf;intro w I v z2 bs hm y5 h6 r C;obtain⟨v1,vs,b1,b2,rfl,rfl,h1,v2,rfl,rfl,g,lb,y7,h3,hof⟩:=y5;obtain rfl:=AB.1 y7;obtain⟨xs,F⟩:KX p.T×(p.T×p.T->X1 Int):=v;have C:O9 xs F=some r:=C
 have H:∀(a:X1 Addr) (s:Nat),v1=.slice a 0 s->xs=[]->
  Calls P (ρ.f 6) #[v1,.func (.func g) #[] lb] w λe w'=>∃rv vs I' M,e=.returned rv/\vs.length=0/\MK vs rv/\Q5 (·∈b1++[]) w I w' I'/\
   R2 P w' I' [.io el (.agg p)] r (vs++[v1]) M/\M.Nodup/\(∀b∈M,b∈b1++[]\/w.heap.size<=b)/\(true=true->w.drawn<=w'.drawn):=by
  intro a s hv y8;subst y8;have C:r=([]:KX p.T):=by have:O9 ([]:KX p.T) F=some []:=rfl;rw[this]at C;cases C;rfl
  subst hv;refine(AnyF.slices_SortFunc_none L a s _ w).mono λe w' ⟨he,R⟩=>?_;subst R;rw[CX]at h6 ⊢;refine⟨_,[],I,b1,he,rfl,rfl,Q5.refl hm,⟨_,rfl,?_⟩,h6,λb N=>.inl N,λ_=>AD _⟩;rw[C];exact h1
 rcases h1 with⟨T,e2,rfl⟩|⟨b,s,cells,T,rfl,hl,⟨fz,N,z9⟩,O,h8,hI,_,hO⟩
 .exact H none 0 (AB.1 T) e2
 .have T:v1=.slice (some ⟨b,0,none⟩) xs.length s:=AB.1 T;by_cases h0:0<xs.length
  .subst T;unfold O9 at C;rw[dif_pos h0]at C;have⟨⟨y1,y2,y3,y4⟩,C⟩:=OX C;have C:(LD xs F h0).toList.map xs.get=r:=A2 C
   letI:Inhabited (Fin xs.length):=⟨⟨0,h0⟩⟩
   let k:=p.sz
   have O:cells.size=s*k:=O;have z3:xs.length<=s:=hl.1;have B:∀i,i<xs.length->i*k+k<=cells.size:=by intro i hi;have:(i+1)*k<=s*k:=AN k oa;rw[O];rw[C7]at this;omega
   let l:Fin xs.length->KX X2:=λi=>(cells.toList.drop (i.val*k)).take k
   have D:∀i:Fin xs.length,Rel w I (.agg p) (xs.get i) (l i):=λi=>h8 i.val (xs.get i) (A1 i.isLt);have hk:∀x,(l x).length=k:=by intro x;have:=B x.val x.isLt;simp only[l,BK,C0,BD];omega
   have h7:∀x,∀v∈l x,v.oneCell'=true:=λx=>(D x).RB;have h4:∀(i:Fin xs.length) (c:Nat),c<k->(l i)[c]! =cells[i.val*k+c]!:=by intro i c U;have h2:=B i.val i.isLt;have Q:i.val*k+c<cells.size:=oa;rw[getElem!_pos (l i) c oc,getElem!_pos cells _ Q];simp[l]
   have X:SWO (ltOf (O8 xs F)):=⟨λx=>y2 x,λx y z=>y3 x y z,λx y z=>y4 x y z⟩;have z4:CmpLays P g lb l k (O8 xs F) b 0 xs.length w:=by
    intro m os dk _ x y;have⟨V,y0⟩:=A9J (enc:=l) (k:=k) (n:=m) (D:=dk) (os:=os) N hm (hI rfl) hO;have⟨c,U⟩:=Option.isSome_iff_exists.1 (y1 x y)
    have:=hof _ I V y0 (xs.get x,xs.get y) [.agg (l x).toArray,.agg (l y).toArray]
     ⟨_,_,rfl,⟨l x,rfl,(D x).ext V⟩,_,rfl,l y,rfl,(D y).ext V⟩ c U
    refine this.mono λe z1 ⟨rv,I'',q1,q2,⟨c',q3,q4,_⟩,q5⟩=>?_;have q3:c'=[rv]:=q3;rw[q3]at q4;have q4:rv=.int .i64 c:=AB.1 q4;refine⟨?_,?_⟩
    .grind[O8]
    .obtain⟨⟨d,y9⟩,R⟩:=regrown_of_below (w:=sortWorldK l k w b 0 m dk os) (w':=z1) ⟨q2.os,q2.tape,q2.output,q2.size,λj A=>q2.heap j A λh=>h⟩;have hd:=q5 rfl;refine⟨d-(sortWorldK l k w b 0 m dk os).drawn,y9,?_⟩;grind[grow,redrawn,World.drewN]
   have J:(Array.ofFn (id:Fin xs.length->Fin xs.length)).size=xs.length:=oh;have x0:∀(j:Nat) (A:j<xs.length),(Array.ofFn (id:Fin xs.length->Fin xs.length))[j]! =⟨j,A⟩:=by intro j A;rw[getElem!_pos _ j (by simpa using A)];simp
   have x3:∀j,j<xs.length*k->j / k<xs.length/\j % k<k/\j / k*k+j % k=j:=λj A=>⟨(Nat.div_lt_iff_lt_mul hp).2 A,Nat.mod_lt _ hp,Nat.div_add_mod' j k⟩;have hH:HoldsK l k w b 0 (Array.ofFn (id:Fin xs.length->Fin xs.length)):=by
    intro j A;rw[size_flatK,J]at A;have⟨d1,d2,d3⟩:=x3 j A;rw[get_flatK _ _ _ _ oc,x0 _ d1,h4 _ _ d2,d3];have a0:j<cells.size:=by have:=B _ d1;have:j<j / k*k+k:=oa;omega
    refine⟨?_,?_⟩
    .simp_all[World.cell?,BH,id,getElem!_pos]
    .simp only[World.frozen?,N,BH];grind
   have Y:b<w.heap.size:=(B6.1 N).1;have y6:(Array.ofFn (id:Fin xs.length->Fin xs.length)).size<4611686018427387904:=by rw[J];have:xs.length<=281474976710656:=hl.2;omega
   have G:=AnyQ.slices_SortFunc_eq L k aE zE l hk h7 (O8 xs F) X g lb b 0 s (Array.ofFn id) w (ARb h3) oc hH Y y6;have E:=pdq_sorts (ltOf (O8 xs F)) X (Array.ofFn (id:Fin xs.length->Fin xs.length)) 0 xs.length (Lib.bitLen xs.length) true true (AT _) oa (.inl rfl);rw[J]at G;have hD:pdq (ltOf (O8 xs F)) (Array.ofFn (id:Fin xs.length->Fin xs.length)) 0 xs.length (Lib.bitLen xs.length) true true=LD xs F h0:=(A4H xs F h0).symm;rw[hD]at G E;have W:(LD xs F h0).size=xs.length:=by have:=E.1.1;rw[J]at this;exact this
   refine G.mono λe w' ⟨he,n,os,R⟩=>?_;have⟨a1,a2,a3,a4⟩:=A9I (enc:=l) (k:=k) (n:=n) (D:=LD xs F h0) (os:=os) N;have⟨x1,x2⟩:=A9J (enc:=l) (k:=k) (n:=n) (D:=LD xs F h0) (os:=os) N hm (hI rfl) hO;rw[<-R]at a1 a2 a3 a4 x1 x2;have K:(show KX p.T from r).length=xs.length:=by
    have:((LD xs F h0).toList.map xs.get).length=xs.length:=by rw[AZ,BD,W]
    rw[C]at this;exact this
   have a5:(putCells id 0 (flatK l k (LD xs F h0)) cells).size=cells.size:=by simp[putCells]
   refine⟨_,[],I,[b],he,rfl,rfl,⟨x1,λj A hn=>a2 j (λe=>hn (by rw[e];simp)) A,a3,λ_ _ h=>.inl h,λ_ h=>.inl h,x2.1,x2.2.1,by rw[R];rfl,by rw[R];rfl,by rw[R];rfl,x2.2.2⟩,?_,oh,λj A=>.inl (by simpa using A),λ_=>by rw[a4];omega⟩;refine⟨_,rfl,.inr ⟨b,s,_,?_,rfl,?_,⟨fz,a1,oc⟩,oa,?_,hI,(λh=>om),hO⟩⟩
   .exact congrArg (λn=>[Value.slice (some ⟨b,0,none⟩) n s]) K.symm
   .have:IZ xs.length s:=hl;rw[<-K]at this;exact this
   .intro i y hy;have hy:((LD xs F h0).toList.map xs.get)[i]?=some y:=by rw[C];exact hy
    rw[AS]at hy;cases hi:(LD xs F h0).toList[i]? with
    |none=>grind
    |some q=>
     rw[hi]at hy;cases hy;have x5:i<xs.length:=by have:=(A3.1 hi).1;rw[BD,W]at this;exact this
     have h9:(LD xs F h0)[i]! =q:=by have:=(A3.1 hi).2;rw[getElem!_pos _ i oa];simpa using this
     have x4:((putCells id 0 (flatK l k (LD xs F h0)) cells).toList.drop (i*k)).take k=l q:=by
      apply BN;intro c;by_cases U:c<k
      .have Q:i*k+c<cells.size:=by have:=B i x5;omega
       have z7:i*k+c<xs.length*k:=by have:(i+1)*k<=xs.length*k:=AN k oa;rw[C7]at this;omega
       have Z:(i*k+c) / k=i:=by rw[D0,Nat.mul_add_div hp,Nat.div_eq_of_lt U];omega
       have h5:(i*k+c) % k=c:=by rw[D0,Nat.mul_add_mod,Nat.mod_eq_of_lt U]
       rw[B0,if_pos U,B5,A_];simp only[putCells,Array.getElem?_mapIdx];rw[AU Q];simp only[BG];rw[if_pos ⟨AT _,by simp_all⟩,Nat.sub_zero,get_flatK _ _ _ _ oc,Z,h5,h9];grind
      .rw[CQ ot,CQ (by rw[hk];omega)]
     rw[show(Ty.agg p).sz=k from rfl,x4];exact(D q).ext x1
  .have V:xs=[]:=AK oa;exact H (some ⟨b,0,none⟩) s (by rw[T,V];rfl) V
end
structure s8(w:X4)(I:Im)(el:Nat)(xs:KX Int)(b o:Nat)(cells:Array X2):Prop where
 row:Q9 w b cells el
 sz:o+xs.length<=cells.size
 rows:∀(j:Nat) (x:Int),xs[j]?=some x->cells[o+j]?=some (.int .i64 x)/\F_ .i64 x
 noC:∀o,¬I.cell b o
 noO:¬I.obj b
theorem qE{I:Im}{cs:KX X2}:Q3 w I (.int .i64) xs cs<->∀(j:Nat) (x:Int),xs[j]?=some x->cs[j]?=some (.int .i64 x)/\F_ .i64 x:=by
 constructor
 .intro h j x b;have⟨a,d⟩:=h j x b;have a:(cs.drop (j*1)).take 1=[.int .i64 x]:=a;rw[CI]at a;have e:=congrArg (λl:KX X2=>l[0]?) a;grind
 .intro h j x b;have⟨a,d⟩:=h j x b;refine⟨?_,d⟩;show(cs.drop (j*1)).take 1=[.int .i64 x];rw[CI];apply BN;grind
theorem s8.holds{I:Im}{o:Nat}(h:s8 w I el xs b o cells):Holds (Value.int .i64) w b o xs.toArray:=by
 intro j a;have a:j<xs.length:=by simpa using a
 have⟨d,_⟩:=h.rows j _ (A1 a);have l:o+j<cells.size:=(B6.1 d).1;obtain⟨fz,m,e⟩:=h.row;grind[World.cell?,World.frozen?]
theorem s8.put{I:Im}{o:Nat}(h:s8 w I el xs b o cells)(m:I4 w I)(ys s:KX Int)(T:ys.length=xs.length)
 (K:∀(i:Nat) (z:Int),s[i]?=some z->ys[i]?=some z)(N:∀y∈s,F_ .i64 y){w':X4}{n:Nat}(a:w'=grow (putRow (Value.int .i64) (Sort.ahead w n) b o ys.toArray) os):
 Q5 (·∈[b]) w I w' I/\s8 w' I el s b o (putCells (Value.int .i64) o ys.toArray cells)/\w.drawn<=w'.drawn:=by
 obtain⟨fz,d,O⟩:=h.row;have E:b<w.heap.size:=(B6.1 d).1;have M:w'.heap[b]?=some (.cells (putCells (Value.int .i64) o ys.toArray cells) el fz):=by rw[a,qD _ _ _ (by simpa using E)];exact A9H (Value.int .i64) _ b o _ d
 have x:∀j,j≠b->j<w.heap.size->w'.heap[j]?=w.heap[j]?:=λj C D=>by rw[a,qD _ _ _ (by simpa using D)];exact A9G (Value.int .i64) _ b o _ j C
 have A:w.heap.size<=w'.heap.size:=by rw[a];simp
 have G:(putCells (Value.int .i64) o ys.toArray cells).size=cells.size:=by simp[putCells]
 have L:Ext w I w' I:=⟨λj o l=>⟨l,by simp only[World.cell?,x j (λe=>h.noC o (e▸l)) (m.1 j o l)]⟩,λj p=>⟨p,x j (λe=>h.noO (e▸p)) (m.2.1 j p)⟩⟩;have V:s.length<=xs.length:=by rw[<-T];apply BX;intro J;have H:=K ys.length (s[ys.length]'(oa)) (A1 _);rw[CQ (AD _)]at H;cases H
 have U:=h.sz
 refine ⟨⟨L,λj C J=>x j (λe=>J (by rw [e]; simp)) C,A,λ_ _ h=>.inl h,λ_ h=>.inl h,λj o l=>AQ (m.1 j o l) A,λj p=>AQ (m.2.1 j p) A,by rw [a]; rfl,by rw [a]; rfl,by rw [a]; rfl,m.2.2.ext L⟩,
  ⟨⟨fz,M,oc⟩,by rw[G];omega,?_,h.noC,h.noO⟩,by rw[a];exact Nat.le_add_right _ _⟩
 intro i z hi;have B:=K i z hi;have R:i<ys.length:=(A3.1 B).1;have Q:o+i<cells.size:=oa;refine⟨?_,N z (AE hi)⟩;simp_all[getElem!_pos,A3,putCells,Array.getElem?_mapIdx,AU,BG,if_pos,Nat.add_sub_cancel_left]
theorem s8.all{I:Im}{o:Nat}(h:s8 w I el xs b o cells):∀y∈xs,F_ .i64 y:=by intro y a;obtain⟨i,hi,rfl⟩:=List.getElem_of_mem a;exact(h.rows i _ (A1 hi)).2
def ARc:Q2:=⟨[.io 3 (.int .i64)],[],slices_Sort_int,true⟩
theorem ARd:FJ Go.Proofs.Tryz.prog 83/\Z9 Go.Proofs.Tryz.prog 83 ARc:=by
 refine⟨W6 Tryz.func83 oe oe,λw I v J bs L H W r p=>?_⟩;obtain⟨a,rfl,T⟩:=H;have p:r=(show KX Int from v).mergeSort λx y=>decide (x<=y):=(A2 p).symm;rcases T with⟨B,m,rfl⟩|⟨b,d,cells,B,rfl,C,K,D,O,Q,_,R⟩
 .obtain rfl:a=.slice none 0 0:=AB.1 B;refine(tv none 0 w).mono λe Y ⟨E,A⟩=>?_;subst A;have m:v=([]:KX Int):=m;subst m;have:r=([]:KX Int):=p.trans List.mergeSort_nil;subst this;exact⟨_,[],I,[],E,rfl,rfl,Q5.refl L,⟨_,rfl,.inl ⟨rfl,rfl,rfl⟩⟩,AW,λb U=>.inl U,λ_=>AD _⟩
 .obtain rfl:a=.slice (some ⟨b,0,none⟩) (show KX Int from v).length d:=AB.1 B;have D:cells.size=d*1:=D;have G:s8 w I 3 v b 0 cells:=⟨K,by rw[D,CI,BH];exact C.1,λj x m=>by rw[BH];have:=qE.1 O j x m;grind,Q rfl,R⟩;have l:(show KX Int from r).length=(show KX Int from v).length:=by rw[p];exact List.length_mergeSort _
  refine(un b 0 d v w G.holds K.lt (Nat.lt_of_le_of_lt C.2 oi)).mono λe Y ⟨E,n,os,A⟩=>?_;rw[<-p]at A;have⟨M,s,N⟩:=G.put L r r l (λi z h=>h) (λy Z=>G.all y (by grind[List.mergeSort_perm])) A;have X:(putCells (Value.int .i64) 0 (show KX Int from r).toArray cells).size=cells.size:=by simp[putCells]
  refine⟨_,[],I,[b],E,rfl,rfl,M,⟨_,rfl,.inr ⟨b,d,_,?_,rfl,?_,s.row,oc,qE.2 λj x m=>?_,λ_=>s.noC,λe=>(by cases e),s.noO⟩⟩,oh,λj V=>.inl V,λ_=>N⟩
  .show [_]=[Value.slice (some ⟨b,0,none⟩) (show KX Int from r).length d];rw[l]
  .exact l.symm▸C
  .have:=s.rows j x m;grind
theorem ARe(xs:KX Int):∀y∈Lib.compact xs,y∈xs:=by intro y h;unfold Lib.compact Lib.compactUpTo at h;grind
theorem ARf(xs:KX Int):(Lib.compact xs).length<=xs.length:=by grind[Lib.compact,Lib.compactUpTo,List.length_map,Nat.le_trans,List.length_filter_le]
def ARg:Q2:=⟨[.dp [3] (.int .i64)],[.dp [3] (.int .i64)],slices_Compact_int,true⟩
theorem A9K:FJ Go.Proofs.Tryz.prog 84/\Z9 Go.Proofs.Tryz.prog 84 ARg:=by
 refine⟨W6 Tryz.func84 oe oe,λw I v E bs H D U r A=>?_⟩;obtain⟨a,rfl,_,Q⟩:=D;have A:r=Lib.compact (show KX Int from v):=(A2 A).symm;rcases DV.inv1 (t:=.int .i64) Q with⟨rfl,d,rfl⟩|⟨b,o,l,cells,rfl,rfl,m,L,G,W,M,N,O⟩
 .refine(t4 none 0 w).mono λe V ⟨s,B⟩=>?_;subst B;have d:v=([]:KX Int):=d;subst d;have:r=([]:KX Int):=by rw[A];rfl
  subst this;exact⟨_,[_],I,[],s,rfl,rfl,Q5.refl H,⟨_,rfl,oh,⟨_,rfl,rfl,.inr (.inl ⟨oh,rfl,rfl,rfl⟩)⟩⟩,AW,λb R=>.inl R,λ_=>AD _⟩
 .have G:o+l*1<=cells.size:=G;have C:s8 w I 3 v b o cells:=⟨L,AM (Nat.add_le_add_left m.1 o) oa,λj x d=>by have:=qE.1 O j x d;grind,M,N⟩;refine(uc b o l v w C.holds (AM m.2 oi) m.1).mono λe V ⟨s,n,B⟩=>?_;have h:=ARf (show KX Int from v);rw[<-A]at s B h
  have⟨J,p,K⟩:=C.put H ((show KX Int from r)++List.replicate ((show KX Int from v).length-(show KX Int from r).length) 0) r oc
   (λi z hi=>oc) (λy X=>C.all y (by grind[ARe])) (n:=n) (os:=#[]) (B.trans (grow_empty _).symm)
  refine⟨_,[_],I,[b],s,rfl,rfl,J,⟨_,rfl,oh,DV.mk1 (t:=.int .i64) ⟨AM h m.1,AM h m.2⟩ p.row (by grind[putCells]) trivial p.noC p.noO (qE.2 λj x d=>?_)⟩,oh,λj T=>.inl T,λ_=>K⟩;rw[B5,A_];exact p.rows j x d
theorem A1L(b:Nat):∀(vs:KX X2) (o:Nat) (w:X4) (cs:Array X2) (el:TypeId) (fz:Nat×Nat),w.heap[b]?=some (.cells cs el fz)->o+vs.length<=cs.size->
 ∃a,(w.setCells b o vs).heap[b]?=some (.cells a el fz)/\a.size=cs.size/\(∀j,j<vs.length->a[o+j]?=vs[j]?)/\(∀j,j<o\/o+vs.length<=j->a[j]?=cs[j]?)
 |[],_,_,cs,_,_,h,_=>⟨cs,h,rfl,λj d=>by simp at d,λ_ _=>rfl⟩
 |v::r,o,w,cs,el,fz,h,e=>by
  have e:o+(r.length+1)<=cs.size:=e;have y:o<cs.size:=oa;have p:(w.setCell ⟨b,o,none⟩ v).heap[b]?=some (.cells (cs.setIfInBounds o v) el fz):=by simp only[World.setCell,Array.getElem?_modify,h];simp
  have⟨a,l,m,s,x⟩:=A1L b r (o+1) _ _ el fz p oc;refine⟨a,l,by rw[m];simp,λj d=>?_,λj d=>?_⟩<;>grind
theorem A1M(b:Nat):∀(vs:KX X2) (o:Nat) (w:X4),(w.setCells b o vs).heap.size=w.heap.size/\(∀k,k≠b->(w.setCells b o vs).heap[k]?=w.heap[k]?)/\
 (w.setCells b o vs).drawn=w.drawn/\(w.setCells b o vs).tape=w.tape/\(w.setCells b o vs).os=w.os/\(w.setCells b o vs).output=w.output
 |[],_,_=>⟨rfl,λ_ _=>rfl,rfl,rfl,rfl,rfl⟩
 |v::r,o,w=>by have⟨a,d,e,h,j,l⟩:=A1M b r (o+1) (w.setCell ⟨b,o,none⟩ v);refine⟨a.trans oh,λk hk=>(d k hk).trans ?_,e,h,j,l⟩;simp only[World.setCell,Array.getElem?_modify];grind
theorem ARh{P:Program}(w:X4)(t e ty:TypeId)(z:X2)(k:Nat)(l:P.underlying t=some (.slice e))(p:∀w,(zeroValue e).run P w=.ok z w)(s:z.cells.size=k)
 (x:∀i,i<k->(z.cells[i]!).oneCell'=true)(b o n c:Nat)(B:0<n)(y:∀j,j<n*k->(w.cell? ⟨b,o+j,none⟩).isSome=true)(A:∀j,j<n*k->w.frozen? ⟨b,o+j,none⟩=false):
 ∃L:KX X2,L.length=n*k/\(Builtin.clear_ #[t] ty #[.slice (some ⟨b,o,none⟩) n c]).run P w=.ok (.tuple #[]) (w.setCells b o L):=by
 have d:(Builtin.zeroCells z.cells n).toList.length=n*k:=by simp[Builtin.zeroCells,s]
 refine⟨(Builtin.zeroCells z.cells n).toList,d,?_⟩;have h:=run_storeCells_cells (P:=P) b o (Builtin.zeroCells z.cells n).toList 0 w oc oc (by intro v a;simp only[Builtin.zeroCells,DN,BP,Array.mem_toList_iff,Array.mem_range]at a;obtain⟨i,hi,rfl⟩:=a;grind[hk,Nat.eq_zero_or_pos,Nat.mod_lt]);simp only[CG]at h;obtain⟨m,rfl⟩:∃m,n=m+1:=⟨n-1,oa⟩;simp[Builtin.clear_,run_underlying l,p,h]
theorem ARi{a b:Array X2}{k d m:Nat}(h:∀c,c<m->a[k*m+c]?=b[d*m+c]?):(a.toList.drop (k*m)).take m=(b.toList.drop (d*m)).take m:=by apply BN;grind
theorem A9L{sl m:Nat}{z:X2}(l:Tryz.prog.underlying sl=some (.slice el))(T:∀w,(zeroValue el).run Tryz.prog w=.ok z w)(U:z.cells.size=m)(E:∀i,i<m->(z.cells[i]!).oneCell'=true)
 (b cap n i j:Nat)(cells:Array X2)(w:X4)(R:cells.size=cap*m)(C:∀t,t<cells.size->w.cell? ⟨b,t,none⟩=some cells[t]!)(H:∀t,t<cells.size->w.frozen? ⟨b,t,none⟩=false)
 (s:n<=cap)(N:i<j)(O:j<=n)(I:∀t,t<n*m->(cells[t]!).oneCell'=true):∃(news:KX X2) (A:Addr) (W1:X4) (L:KX X2),news=(cells.toList.drop (j*m)).take ((n-j)*m)/\
  (if cap=j then some (⟨b,0,none⟩:Addr)else some ⟨b,j*m,none⟩)=some A/\Hid (∀t u,news[t]?=some u->w.drew.cell? (A.add t)=some u)/\Hid (news.length=(n-j)*m)/\Hid (∀u∈news,u.oneCell'=true)/\
  Hid (∀t,t<news.length->(w.drew.cell? ⟨b,0+i*m+t,none⟩).isSome=true/\w.drew.frozen? ⟨b,0+i*m+t,none⟩=false)/\Hid (W1=w.drew.setCells b (0+i*m) news)/\L.length=(n-(i+(n-j)))*m/\
  ∀ty,(Builtin.clear_ #[sl] ty #[.slice (some ⟨b,(i+(n-j))*m,none⟩) (n-(i+(n-j))) (cap-(i+(n-j)))]).run Tryz.prog W1=.ok (.tuple #[]) (W1.setCells b ((i+(n-j))*m) L):=by
 have V:i*m<=j*m:=AN _ oa;have W:j*m<=n*m:=AN _ O;have X:n*m<=cap*m:=AN _ s;have Y:(n-j)*m=n*m-j*m:=Nat.sub_mul ..;have Z:(n-(i+(n-j)))*m=n*m-(i*m+(n*m-j*m)):=by rw[Nat.sub_mul,C7,Nat.sub_mul]
 have e6:(i+(n-j))*m=i*m+(n*m-j*m):=by rw[C7,Nat.sub_mul]
 obtain⟨news,a⟩:∃news,news=(cells.toList.drop (j*m)).take ((n-j)*m):=⟨_,rfl⟩;have e:news.length=(n-j)*m:=by rw[a,BK,C0,BD];omega
 have p:∀t,t<(n-j)*m->news[t]?=some (cells[j*m+t]!):=by intro t d;rw[a,B0,if_pos d,B5,A_,getElem!_pos cells (j*m+t) oa,AU oa]
 have y:∀t u,news[t]?=some u->t<(n-j)*m:=λt u l=>by rw[<-e];exact(A3.1 l).1
 obtain⟨A,M,B⟩:∃A:Addr,(if cap=j then some (⟨b,0,none⟩:Addr)else some ⟨b,j*m,none⟩)=some A/\Hid (∀t u,news[t]?=some u->w.drew.cell? (A.add t)=some u):=by
  by_cases h:cap=j
  .refine⟨⟨b,0,none⟩,by simp[h],λt u l=>?_⟩;have d:=y t u l;rw[show n-j=0 by omega,Nat.zero_mul]at d;omega
  .refine⟨⟨b,j*m,none⟩,by simp[h],λt u l=>?_⟩;have d:=y t u l;rw[p t d]at l;rw[Addr.add_lit];exact(C (j*m+t) oa).trans l
 have Q:∀t,t<cells.size->((w.drew.setCells b (0+i*m) news).cell? ⟨b,t,none⟩).isSome=true:=by intro t d;apply World.isSome_setCells;show(w.cell? _).isSome=true;rw[C t d];rfl
 have x:∀t,t<cells.size->(w.drew.setCells b (0+i*m) news).frozen? ⟨b,t,none⟩=false:=by intro t d;rw[World.frozen?_setCells];exact H t d
 have⟨L,J,K⟩:=ARh (P:=Tryz.prog) (w.drew.setCells b (0+i*m) news) sl el 0 z m l T U E b ((i+(n-j))*m) (n-(i+(n-j))) (cap-(i+(n-j))) oa (λt d=>Q _ oa) (λt d=>x _ oa);refine⟨news,A,_,L,a,M,B,e,λu D=>?_,λt d=>?_,rfl,J,λ_=>K⟩
 .obtain⟨t,d,rfl⟩:=List.getElem_of_mem D;have G:=p t oa;rw[A1 d]at G;rw[A2 G];exact I _ oa
 .rw[e]at d;rw[BH];refine⟨?_,H (i*m+t) oa⟩;show(w.cell? _).isSome=true;rw[C _ oa];rfl
def A1N(fn m:Nat):Prop:=∀(b cap n i j:Nat) (cells:Array X2) (w:X4),cells.size=cap*m->(∀t,t<cells.size->w.cell? ⟨b,t,none⟩=some cells[t]!)->(∀t,t<cells.size->w.frozen? ⟨b,t,none⟩=false)->
 n<=cap->n<=281474976710656->i<j->j<=n->(∀t,t<n*m->(cells[t]!).oneCell'=true)->
 Calls Tryz.prog fn #[.slice (some ⟨b,0,none⟩) n cap,.int .i64 i,.int .i64 j] w λe w'=>e=.returned (.slice (some ⟨b,0,none⟩) (n-(j-i)) cap)/\
  ∃L:KX X2,L.length=(n-(i+(n-j)))*m/\w'=(w.drew.setCells b (i*m) ((cells.toList.drop (j*m)).take ((n-j)*m))).setCells b ((i+(n-j))*m) L
theorem ARj:A1N 6 1:=λb a n i j cells w l D E d O x J B=>by
 have⟨m,A,W1,L,h,G,e,s1,M,N,C,H,p⟩:=A9L (m:=1) Tryz.underlying31 Tryz.zeroValue9 rfl oi b a n i j cells w l D E d x J B;rw[<-h];obtain⟨i0,s,y⟩:∃i0,Tryz.prog.info? 9=some i0/\i0.size=1:=⟨Tryz.t9,oe,oe⟩;have I:i<=a:=oa;have K:j<=a:=oa;clear D E B h l;simp only[CI]at G p;have z:Tryz.prog.follows Departure.mixedOrders=true:=oe;go_enter Tryz.func6,Tryz.ntmps6
 go_wp2_with fail
 go_region_law_o (refine step_append_room rfl (.tmp 22) (.tmp 25) 31 rfl 9 i0 1 Tryz.underlying31 s y b 0 i a (by simp[Act.eval,Act.put]) A (n-j) (a-j) m (by simp[Act.eval,Act.put]) s1.out e.out M.out oa N.out ?_;rw[<-C.out])
 go_wp2;go_ret;refine⟨by rw[show n-(j-i)=i+(n-j) by omega];rfl,L,H,?_⟩;rw[C.out,BH];simp only[CI]
theorem ARk:A1N 11 3:=λb a n i j cells w l C D d O s I z=>by
 have⟨m,A,W1,L,h,N,e,s1,K,M,B,E,G⟩:=A9L (m:=3) Tryz.underlying48 Tryz.zeroValue63 rfl oi b a n i j cells w l C D d s I z;rw[<-h];obtain⟨i0,p,x⟩:∃i0,Tryz.prog.info? 63=some i0/\i0.size=3:=⟨Tryz.t63,oe,oe⟩;have H:i<=a:=oa;have J:j<=a:=oa;clear C D z h l;have y:Tryz.prog.follows Departure.mixedOrders=true:=oe;go_enter Tryz.func11,Tryz.ntmps11
 go_wp2_with fail
 go_region_law_o (refine step_append_room rfl (.tmp 22) (.tmp 25) 48 rfl 63 i0 3 Tryz.underlying48 p x b 0 i a (by simp[Act.eval,Act.put]) A (n-j) (a-j) m (by simp[Act.eval,Act.put]) s1.out e.out K.out oa M.out ?_;rw[<-B.out])
 go_wp2;go_ret;refine⟨by rw[show n-(j-i)=i+(n-j) by omega];rfl,L,E,?_⟩;rw[B.out,BH]
theorem ARl(xs:KX α)(i j k:Nat)(h:i<j)(a:j<=xs.length):(xs.take i++xs.drop j)[k]?=if k<i then xs[k]? else xs[k-i+j]?:=by grind
theorem A9M{fn m:Nat}{d:Ty}(X:d.sz=m)(hm:0<m)(W:A1N fn m):Z9 Go.Proofs.Tryz.prog fn ⟨[.own el d true,.val (.int .i64),.val (.int .i64)],[.own el d true],λx=>TZ x.1 x.2.1 x.2.2,true⟩:=by
 intro w I v x0 bs E h9 y0 r C;obtain⟨xs,i,j⟩:KX d.T×Int×Int:=v;obtain⟨a,y2,Z,x2,rfl,rfl,ha,vi,y3,h4,h5,rfl,rfl,hi,vj,rfl,hj⟩:=h9;have ha:RF Tryz.prog w I (.own el d true) xs [a] Z:=ha;obtain⟨hi,rfl⟩:Z4 w I (.int .i64) i vi/\h4=[]:=hi;obtain⟨hj,rfl⟩:Z4 w I (.int .i64) j vj/\h5=[]:=hj;obtain rfl:vi=.int .i64 i:=by obtain⟨c,K,h2,_⟩:=hi;have K:c=[vi]:=K;grind
 obtain rfl:vj=.int .i64 j:=by obtain⟨c,K,h2,_⟩:=hj;have K:c=[vj]:=K;grind
 have C:TZ xs i j=some (show KX d.T from r):=C;unfold TZ at C;split at C
 case isFalse=>cases C
 case isTrue hc=>
 obtain⟨h0,K,h2⟩:=hc;have C:=A2 C;obtain⟨p,rfl⟩:∃p:Nat,i=p:=⟨i.toNat,oa⟩;obtain⟨n,rfl⟩:∃n:Nat,j=n:=⟨j.toNat,oa⟩;rw[BV,BV]at C;rcases ha with⟨_,e2,_⟩|⟨b,A,cells,e1,rfl,hl,⟨fz,hb,x4⟩,D,z,hI,_,hO⟩
 .grind
 .obtain rfl:a=.slice (some ⟨b,0,none⟩) xs.length A:=AB.1 e1;have D:cells.size=A*m:=by rw[<-X];exact D
  have N:xs.length<=A:=hl.1;have B:n<=xs.length:=oa;have O:p<n:=oa;have e1:p*m<=n*m:=AN _ oa;have e2:n*m<=xs.length*m:=AN _ B;have e3:xs.length*m<=A*m:=AN _ N;have e4:(xs.length-n)*m=xs.length*m-n*m:=Nat.sub_mul ..;have e5:(xs.length-(p+(xs.length-n)))*m=xs.length*m-(p*m+(xs.length*m-n*m)):=by rw[Nat.sub_mul,C7,Nat.sub_mul]
  have e6:(p+(xs.length-n))*m=p*m+(xs.length*m-n*m):=by rw[C7,Nat.sub_mul]
  have z:∀(k:Nat) (x:d.T),xs[k]?=some x->Rel w I d x ((cells.toList.drop (k*m)).take m):=by rw[<-X];exact z
  have Q:∀t,t<xs.length*m->(cells[t]!).oneCell'=true:=by intro t T;have hk:t / m<xs.length:=(Nat.div_lt_iff_lt_mul hm).2 T;have hq:=Nat.div_add_mod' t m;have y1:=Nat.mod_lt t hm;have h3:=(z (t / m) _ (A1 hk)).RB;refine h3 _ ?_;rw[List.mem_iff_getElem?];refine⟨t % m,?_⟩;rw[B0,if_pos oa,B5,A_,hq,getElem!_pos cells t oa,AU oa]
  refine(W b A xs.length p n cells w D (λt T=>?_) (λt T=>?_) N hl.2 O B Q).mono λe U ⟨he,L,hL,W⟩=>?_
  .simp_all[World.cell?,getElem!_pos]
  .grind[World.frozen?]
  .obtain⟨l,s⟩:∃l,l=(cells.toList.drop (n*m)).take ((xs.length-n)*m):=⟨_,rfl⟩;rw[<-s]at W;have h8:l.length=(xs.length-n)*m:=by rw[s,BK,C0,show cells.toList.length=cells.size from rfl];omega
   have G:∀t,t<(xs.length-n)*m->l[t]?=cells[n*m+t]?:=by intro t T;rw[s,B0,if_pos T,B5,A_]
   have⟨c1,a1,a2,a3,a4⟩:=A1L b l (p*m) w.drew cells el fz hb oa;have⟨V,b1,b2,b3,b4⟩:=A1L b L ((p+(xs.length-n))*m) _ c1 el fz a1 oa;have⟨f1,f2,f3,f4,f5,f6⟩:=A1M b l (p*m) w.drew;have⟨g1,g2,g3,g4,g5,g6⟩:=A1M b L ((p+(xs.length-n))*m) (w.drew.setCells b (p*m) l);rw[<-W]at b1 g1 g2 g3 g4 g5 g6;have R:U.heap.size=w.heap.size:=g1.trans f1;have hh:∀k,k≠b->U.heap[k]?=w.heap[k]?:=λk hk=>(g2 k hk).trans (f2 k hk);have x1:Ext w I U I:=⟨λk o h=>⟨h,by simp only[World.cell?,hh k (λe=>hI rfl o (e▸h))]⟩,λk h=>⟨h,hh k (λe=>hO (e▸h))⟩⟩;have H:(show KX d.T from r).length=xs.length-(n-p):=by rw[<-C,AL,BK,C0];omega
   have J:Q3 U I d (show KX d.T from r) V.toList:=by
    intro k y M;rw[<-C,ARl xs p n k O B]at M;obtain⟨Y,h7,x5,h6⟩:∃Y,xs[Y]?=some y/\k<p+(xs.length-n)/\∀c,c<m->V[k*m+c]?=cells[Y*m+c]?:=by
     by_cases h:k<p
     .rw[if_pos h]at M;have e7:=AN m (show k+1<=p from h);rw[C6]at e7;exact⟨k,M,oa,λc hc=>by rw[b4 _ (.inl oa),a4 _ (.inl oa)]⟩
     .rw[if_neg h]at M;have x3:=(A3.1 M).1;have e7:=AN m (show k-p+1<=xs.length-n by omega);have e8:p*m<=k*m:=AN _ oa;rw[C6,Nat.sub_mul]at e7;refine⟨k-p+n,M,oa,λc hc=>?_⟩;rw[b4 _ (.inl oa),show k*m+c=p*m+((k-p)*m+c) by rw[Nat.sub_mul];omega,a3 _ (by rw[h8,Nat.sub_mul];omega),G _ (by rw[Nat.sub_mul];omega),C7,Nat.sub_mul];congr 1;omega
    show Rel U I d y ((V.toList.drop (k*d.sz)).take d.sz);rw[X,ARi h6];exact(z Y y h7).ext x1
   refine⟨_,[_],I,[b],he,rfl,rfl,⟨x1,λk hk hn=>hh k (λe=>hn (by rw[e];simp)),oa,λ_ _ h=>.inl h,λ_ h=>.inl h,λk o h=>by rw[R];exact E.1 k o h,λk h=>by rw[R];exact E.2.1 k h,g5.trans f5,g4.trans f4,g6.trans f6,E.2.2.ext x1⟩,⟨_,rfl,.inr ⟨b,A,V,?_,rfl,⟨by rw[H];omega,by rw[H];exact AM (Nat.sub_le _ _) hl.2⟩,⟨fz,b1,?_⟩,by rw[X];omega,J,hI,(λh=>om),hO⟩⟩,oh,λk hk=>.inl (by simpa using hk),λ_=>by simp_all⟩
   .rw[H]
   grind
def ARm:Q2:=⟨[.own 9 .str true,.val (.int .i64),.val (.int .i64)],[.own 9 .str true],vI,true⟩
theorem ARn:FJ Go.Proofs.Tryz.prog 6/\Z9 Go.Proofs.Tryz.prog 6 ARm:=⟨W6 Tryz.func6 oe oe,A9M rfl oi ARj⟩
abbrev A9N:Ty:=.agg (.prod (.agg (.prod .str (.int .i64))) .str)
def ARo:Q2:=⟨[.own 63 A9N true,.val (.int .i64),.val (.int .i64)],[.own 63 A9N true],vJ,true⟩
theorem ARp:FJ Go.Proofs.Tryz.prog 11/\Z9 Go.Proofs.Tryz.prog 11 ARo:=⟨W6 Tryz.func11 oe oe,A9M rfl oi ARk⟩
end Go.Ev.Pv
namespace Go.Proofs
open Tryz
open Go.Shelf
def vn:Go.Shelf.Ren:=⟨λ|6=>259|15=>126|14=>305|28=>200|29=>201|20=>338|21=>339|22=>340|23=>341|24=>342|25=>343|26=>344|27=>345|46=>363|47=>270|48=>271|49=>364|50=>365|57=>375|n=>n,λ|22=>330|24=>412|25=>415|3=>3|39=>261|0=>0|53=>360|55=>362|4=>4|46=>354|45=>353|50=>102|5=>5|9=>9|66=>428|70=>432|76=>478|77=>461|n=>n,λ|n=>n⟩
theorem wt:Go.Proofs.SlLaysF0.n6 Tryz.prog vn:=by constructor;exact oe;exact⟨f259.name,oi,fk func259⟩;exact⟨f305.name,oi,fk func305⟩;exact fk func126;exact⟨f338.name,oi,fk func338⟩;exact⟨f339.name,oi,fk func339⟩;exact⟨f340.name,oi,fk func340⟩;exact⟨f341.name,oi,fk func341⟩;exact⟨f342.name,oi,fk func342⟩;exact⟨f343.name,oi,fk func343⟩;exact⟨f344.name,oi,fk func344⟩;exact⟨f345.name,oi,fk func345⟩;exact fk func200;exact fk func201;exact⟨f363.name,oi,fk func363⟩;exact fk func270;exact fk func271;exact⟨f364.name,oi,fk func364⟩;exact⟨f365.name,oi,fk func365⟩;exact⟨f375.name,oi,fk func375⟩;repeat' first|(intros;kernel_rfl)|decide|constructor
def vq:Go.Shelf.Ren:=⟨λ|6=>89|15=>126|14=>138|28=>200|29=>201|20=>209|21=>210|22=>211|23=>212|24=>213|25=>214|26=>215|27=>216|46=>277|47=>270|48=>271|49=>278|50=>279|57=>316|n=>n,λ|22=>160|24=>163|25=>214|3=>3|39=>261|0=>0|53=>360|55=>362|4=>4|46=>354|45=>353|50=>102|5=>5|9=>9|66=>428|70=>432|76=>478|77=>461|n=>n,λ|n=>n⟩
theorem wv:Go.Proofs.SlLaysF0.n6 Tryz.prog vq:=by constructor;exact oe;exact⟨f89.name,oi,fk func89⟩;exact⟨f138.name,oi,fk func138⟩;exact fk func126;exact⟨f209.name,oi,fk func209⟩;exact⟨f210.name,oi,fk func210⟩;exact⟨f211.name,oi,fk func211⟩;exact⟨f212.name,oi,fk func212⟩;exact⟨f213.name,oi,fk func213⟩;exact⟨f214.name,oi,fk func214⟩;exact⟨f215.name,oi,fk func215⟩;exact⟨f216.name,oi,fk func216⟩;exact fk func200;exact fk func201;exact⟨f277.name,oi,fk func277⟩;exact fk func270;exact fk func271;exact⟨f278.name,oi,fk func278⟩;exact⟨f279.name,oi,fk func279⟩;exact⟨f316.name,oi,fk func316⟩;repeat' first|(intros;kernel_rfl)|decide|constructor
def vr:Go.Shelf.Ren:=⟨λ|6=>97|15=>126|14=>141|28=>200|29=>201|20=>217|21=>218|22=>219|23=>220|24=>221|25=>222|26=>223|27=>224|46=>280|47=>270|48=>271|49=>281|50=>282|57=>317|n=>n,λ|22=>49|24=>203|25=>222|3=>3|39=>261|0=>0|53=>360|55=>362|4=>4|46=>354|45=>353|50=>102|5=>5|9=>9|66=>428|70=>432|76=>478|77=>461|n=>n,λ|n=>n⟩
theorem ww:Go.Proofs.SlLaysF0.n6 Tryz.prog vr:=by constructor;exact oe;exact⟨f97.name,oi,fk func97⟩;exact⟨f141.name,oi,fk func141⟩;exact fk func126;exact⟨f217.name,oi,fk func217⟩;exact⟨f218.name,oi,fk func218⟩;exact⟨f219.name,oi,fk func219⟩;exact⟨f220.name,oi,fk func220⟩;exact⟨f221.name,oi,fk func221⟩;exact⟨f222.name,oi,fk func222⟩;exact⟨f223.name,oi,fk func223⟩;exact⟨f224.name,oi,fk func224⟩;exact fk func200;exact fk func201;exact⟨f280.name,oi,fk func280⟩;exact fk func270;exact fk func271;exact⟨f281.name,oi,fk func281⟩;exact⟨f282.name,oi,fk func282⟩;exact⟨f317.name,oi,fk func317⟩;repeat' first|(intros;kernel_rfl)|decide|constructor
end Go.Proofs
namespace Go.Ev.Pv
open Go.Proofs Go.Shelf
def ARq:Q2:=⟨[.io 412 (.agg (.prod (.agg (.prod (.int .i64) (.prod .str (.prod .bool .str)))) (.agg (.prod (.int .i64) (.prod .str (.prod .bool .str)))))),.hof true (.prod (.agg (.prod (.agg (.prod (.int .i64) (.prod .str (.prod .bool .str)))) (.agg (.prod (.int .i64) (.prod .str (.prod .bool .str)))))) (.agg (.prod (.agg (.prod (.int .i64) (.prod .str (.prod .bool .str)))) (.agg (.prod (.int .i64) (.prod .str (.prod .bool .str))))))) (.int .i64)],[],vG,true⟩
theorem ARr:FJ Go.Proofs.Tryz.prog 259/\Z9 Go.Proofs.Tryz.prog 259 ARq:=
 ⟨W6 Tryz.func259 oe oe,A1K wt rfl Tryz.isAgg412 Tryz.sizeOf412 oi⟩
def ARs:Q2:=⟨[.io 163 (.agg (.prod (.int .i64) (.int .i64))),.hof true (.prod (.agg (.prod (.int .i64) (.int .i64))) (.agg (.prod (.int .i64) (.int .i64)))) (.int .i64)],[],A4I,true⟩
theorem ARt:FJ Go.Proofs.Tryz.prog 89/\Z9 Go.Proofs.Tryz.prog 89 ARs:=
 ⟨W6 Tryz.func89 oe oe,A1K wv rfl Tryz.isAgg163 Tryz.sizeOf163 oi⟩
def ARu:Q2:=⟨[.io 203 (.agg (.prod .str .str)),.hof true (.prod (.agg (.prod .str .str)) (.agg (.prod .str .str))) (.int .i64)],[],gE,true⟩
theorem ARv:FJ Go.Proofs.Tryz.prog 97/\Z9 Go.Proofs.Tryz.prog 97 ARu:=
 ⟨W6 Tryz.func97 oe oe,A1K ww rfl Tryz.isAgg203 Tryz.sizeOf203 oi⟩
variable{l:FN}
variable [CB]
theorem A9O(h:(l.map (·.1)).Nodup)(x:J3)(v:X5):DY GJ x l=some v<->(x,v)∈l:=by
 induction l with
 |nil=>simp[DY]
 |cons a l e=>rw[CT]at h;have⟨b,d⟩:=AY.1 h;simp only[DY];rw[SY];grind
theorem A9P(h:(l.map (·.1)).Nodup):l.Nodup:=(List.pairwise_map.1 h).imp λ{a b} h e=>h (congrArg (·.1) e)
theorem A1O{m:FN}(a:(l.map (·.1)).Nodup)(b:(m.map (·.1)).Nodup)(h:∀x,DY GJ x l=DY GJ x m):l.Perm m:=by refine(List.perm_ext_iff_of_nodup (A9P a) (A9P b)).2 λe=>?_;obtain⟨x,v⟩:=e;rw[<-A9O a,<-A9O b,h]
theorem A9Q(h:(l.map (·.1)).Nodup)(x:J3)(v:X5):((EE GJ x v l).map (·.1)).Nodup:=by rw[A0v SY];grind
theorem A9R(k a:J3)(v:X5)(m:FN):DY GJ k (EE GJ a v m)=if k=a then some v else DY GJ k m:=XL SY k a v m
theorem A9S:∀(o u:FN) (x:J3),DY GJ x (K8 o u)=if x∈o.map (·.1)then some true else DY GJ x u:=by
 intro o;induction o with
 |nil=>intro u x;rfl
 |cons k o a=>intro u x;show DY GJ x (K8 o (EE GJ k.1 true u))=_;rw[a,A9R,CT];grind
theorem A9T:∀(o u:FN),(u.map (·.1)).Nodup->((K8 o u).map (·.1)).Nodup:=by
 intro o;induction o with
 |nil=>intro u h;exact h
 |cons k o a=>intro u h;exact a _ (A9Q h k.1 true)
theorem ARw{o o' u:FN}(h:o'.Perm o)(a:(u.map (·.1)).Nodup):(K8 o' u).Perm (K8 o u):=by grind[A1O,A9T,A9S]
theorem ARx{o u r:FN}(d:(u.map (·.1)).Nodup)(b:o.Perm l)(h:FI SM l u=some (.inl r)):∃a,FI SM o u=some (.inl a)/\a.Perm r:=by rw[pT]at h ⊢;cases A2 h;exact⟨_,rfl,ARw b d⟩
open Classical in
def StR(p:I3)(sg:Int)(o u:FN)(z:Sum (Int×I3×FN) Unit):Prop:=(∀k∈o,∃r,OC (p,k.1,sg)=some r)/\
 ∃L:FN,z=.inl (sg,p,L)/\((u.map (·.1)).Nodup->(L.map (·.1)).Nodup)/\∀x,DY GJ x L=if(∃k∈o,OC (p,k.1,sg)=some (x,true))then some true else DY GJ x u
theorem A9U(p:I3)(sg:Int):∀(o u:FN) (z:Sum (Int×I3×FN) Unit),FI M6 o (sg,p,u)=some z->StR p sg o u z:=by
 classical
 intro o;induction o with
 |nil=>intro u z h;cases A2 h;exact⟨λk h=>(om),u,rfl,id,λx=>by rw[if_neg (λ⟨k,h,_⟩=>(om))]⟩
 |cons k o J=>
  intro u z h;unfold FI at h;have⟨y,m,D⟩:=GP h;unfold M6 at m;dsimp only at m;have⟨⟨a,b⟩,E,w⟩:=GP m;have key:∀d,y=.inl (sg,p,d)->((u.map (·.1)).Nodup->(d.map (·.1)).Nodup)->(∀x,DY GJ x d=if b=true/\x=a then some true else DY GJ x u)->StR p sg (k::o) u z:=λd I H s=>by
   subst I;have⟨K,L,A,B,C⟩:=J d z D;have all:∀j∈k::o,∃r,OC (p,j.1,sg)=some r:=λj hk=>by grind
   refine⟨all,L,A,λG=>B (H G),λx=>?_⟩;rw[C x,s x];by_cases e:∃j∈o,OC (p,j.1,sg)=some (x,true)
   .simp_all
   .rw[if_neg e];by_cases l:b=true/\x=a
    .rw[if_pos l,if_pos ⟨k,AF,by rw[E,l.1,l.2]⟩]
    grind
  cases b with
  |true=>have w:some (Sum.inl (sg,p,EE GJ a true u))=some y:=w;grind[Option.some.inj,A9Q,A9R]
  |false=>grind
theorem ARy(p:I3)(sg:Int):∀(o u:FN),(∀k∈o,∃r,OC (p,k.1,sg)=some r)->∃z,FI M6 o (sg,p,u)=some z:=by
 intro o;induction o with
 |nil=>intro u _;exact⟨_,rfl⟩
 |cons k o l=>
  intro u h;have⟨⟨a,b⟩,e⟩:=h k AF;unfold FI;have:∃d,M6 k (sg,p,u)=some (.inl (sg,p,d)):=by unfold M6;dsimp only;rw[e,A0];cases b<;>exact⟨_,rfl⟩
  obtain⟨d,j⟩:=this;simp_all
theorem ARz{p:I3}{sg:Int}{o u:FN}{z:Sum (Int×I3×FN) Unit}(j:(u.map (·.1)).Nodup)(e:o.Perm l)(h:FI M6 l (sg,p,u)=some z):
 ∃L L':FN,z=.inl (sg,p,L)/\FI M6 o (sg,p,u)=some (.inl (sg,p,L'))/\L'.Perm L:=by
 classical
 have⟨y,L,A,B,C⟩:=A9U p sg l u z h;have⟨D,d⟩:=ARy p sg o u λk hk=>y k (e.mem_iff.1 hk);have⟨_,L',m,s,w⟩:=A9U p sg o u D d;refine⟨L,L',A,by rw[d,m],A1O (s j) (B j) λx=>?_⟩;rw[w,C];have:(∃k∈o,OC (p,k.1,sg)=some (x,true))<->∃k∈l,OC (p,k.1,sg)=some (x,true):=⟨λ⟨k,a,b⟩=>⟨k,e.mem_iff.1 a,b⟩,λ⟨k,a,b⟩=>⟨k,e.mem_iff.2 a,b⟩⟩;simp only[this]
def T4(p:I3)(k:J3):X1 (X1 J3):=
 (bif (!(k.2||(decide ((p.2.1.length:Int)<=k.1))))then at? p.2.1 k.1 else some ((0:Int),(0:Int))).bind λy2=>
 (bif ((!(k.2||(decide ((p.2.1.length:Int)<=k.1))))&&(!(DT y2.1 (2:Int))))then at? p.2.1 k.1 else some ((0:Int),(0:Int))).bind λy3=>
 some (bif ((k.2||(decide ((p.2.1.length:Int)≤k.1)))||((!(DT y2.1 (2:Int)))&&(!(DT y3.1 (4:Int)))))then none else some ((IntKind.i64.wrap (k.1+(1:Int))),false))
theorem A9V(p:I3)(k:J3×X5)(l:FN)(b:X5):M5 k (l,p,b)=(T4 p k.1).bind λw=>match w with
 |none=>some (.inl (l,p,b))
 |some x=>bif (DY GJ x l).getD false then some (.inl (l,p,b))else some (.inl (K8 l [(x,true)],p,true)):=by
 unfold M5 T4;dsimp only;cases (bif (!(k.1.2||(decide ((p.2.1.length:Int)<=k.1.1))))then at? p.2.1 k.1.1 else some ((0:Int),(0:Int)))with
 |none=>rfl
 |some y=>
  rw[A0,A0];cases (bif ((!(k.1.2||(decide ((p.2.1.length:Int)<=k.1.1))))&&(!(DT y.1 (2:Int))))then at? p.2.1 k.1.1 else some ((0:Int),(0:Int)))with
  |none=>rfl
  |some a=>
   rw[A0,A0,A0];cases ((k.1.2||(decide ((p.2.1.length:Int)<=k.1.1)))||((!(DT y.1 (2:Int)))&&(!(DT a.1 (4:Int)))))with
   |true=>rfl
   |false=>rw[A8,A8,A8U];show(bif (!((DY GJ ((IntKind.i64.wrap (k.1.1+(1:Int))),false) l).getD false))then _ else _)=_;simp
def T5(p:I3)(o:FN)(x:J3):Prop:=∃k∈o,T4 p k.1=some (some x)
theorem AS0(l:FN)(x:J3):((l.map (·.1)).Nodup->((K8 l [(x,true)]).map (·.1)).Nodup)/\∀y,DY GJ y (K8 l [(x,true)])=if y=x\/y∈l.map (·.1)then some true else none:=by refine⟨λ_=>A9T _ _ oh,λy=>?_⟩;rw[A9S];by_cases h:y∈l.map (·.1)<;>simp_all[if_pos,if_neg,DY,SY,A6,A4,A9,A8]
theorem AS1{x:J3}{v:X5}(h:DY GJ x l=some v):x∈l.map (·.1):=by
 induction l with
 |nil=>cases h
 |cons a l b=>simp only[DY]at h;rw[SY]at h;grind
def WdR(p:I3)(o l:FN)(b:X5)(l':FN)(b':X5):Prop:=
 ((∀x,T5 p o x->(DY GJ x l).getD false=true)/\l'=l/\b'=b)\/
 ((∃x,T5 p o x/\(DY GJ x l).getD false=false)/\b'=true/\(l'.map (·.1)).Nodup/\∀y,((T5 p o y\/y∈l.map (·.1))->DY GJ y l'=some true)/\(¬(T5 p o y\/y∈l.map (·.1))->DY GJ y l'=none))
theorem A9W(p:I3):∀(o l:FN) (b:X5) (z:Sum (FN×I3×X5) Unit),(l.map (·.1)).Nodup->FI M5 o (l,p,b)=some z->(∀k∈o,∃r,T4 p k.1=some r)/\∃s j,z=.inl (s,p,j)/\WdR p o l b s j:=by
 intro o;induction o with
 |nil=>intro l b z _ h;cases A2 h;exact⟨λk h=>(om),l,b,rfl,.inl ⟨λx ⟨k,h,_⟩=>(om),rfl,rfl⟩⟩
 |cons k o Q=>
  intro l b z J h;unfold FI at h;rw[A9V]at h;have⟨y,U,M⟩:=GP h;have⟨w,V,I⟩:=GP U;have all:(∀k∈o,∃r,T4 p k.1=some r)->∀m∈k::o,∃r,T4 p m.1=some r:=λg m hk=>by
   rcases B1.1 hk with rfl|hk
   .grind
   .exact g m hk
  have d:∀x,T5 p (k::o) x<->w=some x\/T5 p o x:=λx=>by
   constructor
   .rintro⟨m,hk,B⟩;rcases B1.1 hk with rfl|hk
    .grind
    .exact .inr ⟨m,hk,B⟩
   .rintro(rfl|⟨m,hk,B⟩)
    .exact⟨k,AF,V⟩
    .exact⟨m,AP _ hk,B⟩
  have same:y=.inl (l,p,b)->(∀x,w=some x->(DY GJ x l).getD false=true)->(∀m∈k::o,∃r,T4 p m.1=some r)/\∃s j,z=.inl (s,p,j)/\WdR p (k::o) l b s j:=λa O=>by
   subst a;have⟨E,s,j,G,H⟩:=Q l b z J M;refine⟨all E,s,j,G,?_⟩;rcases H with⟨A,D,C⟩|⟨⟨x,T,A⟩,D,C,L⟩
   .exact .inl ⟨λx B=>((d x).1 B).elim (O x) (A x),D,C⟩
   .refine .inr ⟨⟨x,(d x).2 (.inr T),A⟩,D,C,λy=>⟨λa=>?_,λa=>(L y).2 λh=>a (h.imp (λh=>(d y).2 (.inr h)) id)⟩⟩;rcases a with a|a
    .rcases(d y).1 a with a|a
     .have:=O y a;cases e:DY GJ y l<;>grind[DY,GJ,AS1]
     grind
    grind
  cases w with
  |none=>simp_all
  |some x=>
   dsimp only at I;cases N:(DY GJ x l).getD false with
   |true=>grind
   |false=>
    rw[N,A8]at I;cases A2 I;have⟨R,K⟩:=AS0 l x;have⟨E,s,j,G,H⟩:=Q _ true z (R J) M;refine⟨all E,s,j,G,.inr ⟨⟨x,(d x).2 (.inl rfl),N⟩,?_⟩⟩;rcases H with⟨A,rfl,rfl⟩|⟨_,rfl,C,L⟩
    .refine⟨rfl,R J,λy=>⟨λa=>?_,λa=>?_⟩⟩
     .rw[K];rcases a with a|a
      .rcases(d y).1 a with a|a
       .grind
       .have:=A y a;rw[K]at this;by_cases e:y=x\/y∈l.map (·.1)<;>grind
      grind
     .rw[K,if_neg];grind
    .have hk:∀y,y∈(K8 l [(x,true)]).map (·.1)<->y=x\/y∈l.map (·.1):=λy=>by rw[A8T];simp[or_comm]
     grind
theorem AS2(p:I3):∀(o l:FN) (b:X5),(∀k∈o,∃r,T4 p k.1=some r)->∃z,FI M5 o (l,p,b)=some z:=by
 intro o;induction o with
 |nil=>intro l b _;exact⟨_,rfl⟩
 |cons k o m=>
  intro l b h;have⟨r,j⟩:=h k AF;have:∃d a,M5 k (l,p,b)=some (.inl (d,p,a)):=by
   rw[A9V,j,A0];cases r with
   |none=>simp
   |some x=>dsimp only;cases (DY GJ x l).getD false<;>exact⟨_,_,rfl⟩
  obtain⟨d,a,e⟩:=this;unfold FI;rw[e,A0];exact m d a λk hk=>h k (AP _ hk)
theorem AS3{p:I3}{o u:FN}{b:X5}{z:Sum (FN×I3×X5) Unit}(m:(u.map (·.1)).Nodup)(e:o.Perm l)(h:FI M5 l (u,p,b)=some z):
 ∃(L L':FN) (b':X5),z=.inl (L,p,b')/\FI M5 o (u,p,b)=some (.inl (L',p,b'))/\L'.Perm L:=by
 have⟨E,L,b',G,H⟩:=A9W p l u b z m h;have⟨I,d⟩:=AS2 p o u b λk hk=>E k (e.mem_iff.1 hk);have⟨_,L',A,D,j⟩:=A9W p o u b I m d;have N:∀x,T5 p o x<->T5 p l x:=λx=>⟨λ⟨k,a,c⟩=>⟨k,e.mem_iff.1 a,c⟩,λ⟨k,a,c⟩=>⟨k,e.mem_iff.2 a,c⟩⟩;rcases H with⟨s,rfl,rfl⟩|⟨⟨x,J,s⟩,rfl,w,K⟩
 .rcases j with⟨_,rfl,rfl⟩|⟨⟨y,c0,B⟩,_⟩<;>grind
 .rcases j with⟨B,_⟩|⟨_,rfl,C,M⟩
  .grind
  .refine⟨L,L',true,G,by rw[d,D],A1O C w λy=>?_⟩;grind
abbrev R1:Ty:=.agg (.prod (.int .i64) .bool)
abbrev T6:Ty:=.prod .str (.prod (.slice (.agg (.prod (.int .i64) (.int .u8)))) (.int .i64))
theorem AS4(v:Z5 [.it R1 .bool,.omap R1 .bool])(x:H6 [((.exit 0),⟨[5],[.omap R1 .bool]⟩),(.ret,⟨[],[]⟩)])(d:WD [.it R1 .bool,.omap R1 .bool] v)(j:FI SM v.1 v.2=some x)
 (o:KX (R1.T×Ty.bool.T))(e:o.Perm (show KX (R1.T×Ty.bool.T)from v.1)):∃z,FI SM o v.2=some z/\WC [((.exit 0),⟨[5],[.omap R1 .bool]⟩),(.ret,⟨[],[]⟩)] z x:=by
 have h:some (Sum.inl (K8 v.1 v.2))=some x:=(pT v.1 v.2).symm.trans j;have h:=A2 h;subst h;have⟨r,a,b⟩:=ARx (o:=o) d.2 e (pT _ _);exact⟨_,a,b⟩
theorem AS5(v:Z5 [.it R1 .bool,.val (.int .i64),.box (.val T6),.omap R1 .bool])(x:H6 [((.exit 0),⟨[2,3,7],[.val (.int .i64),.box (.val T6),.omap R1 .bool]⟩),(.ret,⟨[],[]⟩)])
 (d:WD [.it R1 .bool,.val (.int .i64),.box (.val T6),.omap R1 .bool] v)(j:FI M6 v.1 v.2=some x)(o:KX (R1.T×Ty.bool.T))(e:o.Perm (show KX (R1.T×Ty.bool.T)from v.1)):
 ∃z,FI M6 o v.2=some z/\WC [((.exit 0),⟨[2,3,7],[.val (.int .i64),.box (.val T6),.omap R1 .bool]⟩),(.ret,⟨[],[]⟩)] z x:=by
 obtain⟨l,s,p,u⟩:=v;have⟨L,L',h,a,b⟩:=ARz (p:=p) (sg:=s) (l:=l) (o:=o) (u:=u) d.2.2.2 e j;have h:=h.symm;subst h;exact⟨_,a,⟨rfl,rfl,b⟩⟩
theorem AS6(v:Z5 [.it R1 .bool,.val (.map R1 .bool),.box (.val T6),.val .bool])(x:H6 [((.exit 2),⟨[1,2,5],[.val (.map R1 .bool),.box (.val T6),.val .bool]⟩),(.ret,⟨[],[]⟩)])
 (e:WD [.it R1 .bool,.val (.map R1 .bool),.box (.val T6),.val .bool] v)(m:FI M5 v.1 v.2=some x)(o:KX (R1.T×Ty.bool.T))(j:o.Perm (show KX (R1.T×Ty.bool.T)from v.1)):
 ∃z,FI M5 o v.2=some z/\WC [((.exit 2),⟨[1,2,5],[.val (.map R1 .bool),.box (.val T6),.val .bool]⟩),(.ret,⟨[],[]⟩)] z x:=by
 obtain⟨l,u,p,b⟩:=v;have⟨L,L',s,h,a,d⟩:=AS3 (p:=p) (l:=l) (o:=o) (u:=u) (b:=b) e.2.1 j m;have h:=h.symm;subst h;exact⟨_,a,⟨d,rfl,rfl⟩⟩
end Go.Ev.Pv
