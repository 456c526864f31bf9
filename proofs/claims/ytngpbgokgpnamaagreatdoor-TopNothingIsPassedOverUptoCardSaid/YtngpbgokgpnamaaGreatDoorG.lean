/-
  The contracts of Go's library that the law reaches, in the evaluator's terms.
-/
import Derived.Shelf.Small.Strs
import Derived.Shelf.Small.Wraps
import Derived.Shelf.Utf8.RuneCount
import Derived.Shelf.Strings.Builder2Cap
import Derived.Shelf.Strconv.Itoa3
import Derived.Shelf.Strconv.AtoiAll
import Derived.Shelf.Strconv.ParseUintEmpty
import Derived.Shelf.Strconv.ParseUint10b64
import Derived.Shelf.Strconv.ParseUint10b32
import Derived.Shelf.Strconv.ParseUint10b16
import Derived.Shelf.Strconv.ParseUint10b8
import Derived.Shelf.Strings.Shaped
import Derived.Shelf.Sort.Plain
import Derived.Shelf.Strings.LastIndex
import Derived.Shelf.Strings.SplitShaped
import Derived.Shelf.Strings.Explode
import Derived.Shelf.Strings.Repeat
import Derived.Shelf.Strings.CaseAny
import Derived.Shelf.Strings.FieldsFuncGrows
import Derived.Shelf.Slices.Turned
import Derived.Shelf.Slices.SearchI
import Derived.Shelf.Slices.Cells
import Derived.Shelf.Slices.In.SortNone
import Derived.Shelf.SlicesE.Compact
import Derived.Shelf.SlicesE.IndexFunc
import Derived.Test.YtngpbgokgpnamaaGreatDoorProg
import Derived.Lib.AppendIntMem
import Derived.Shelf.SlSortCmp.NoneTotal
import Derived.Lib.QuietBelow
import Derived.Test.YtngpbgokgpnamaaGreatDoorA4
set_option linter.all false
set_option maxRecDepth 1000000
set_option maxHeartbeats 16000000
noncomputable section
namespace Go.Ev
variable{v:Value}{a:Ty}{args:List Value}
variable [Pins]
open Go.RowKit
def imNew(I:Im)(X:Nat->Nat->Prop):Im:=⟨λb o=>I.cell b o\/X b o,I.obj⟩
theorem After.below{w w':World}{I:Im}(d:HQ w I)(a:Below w.heap.size w w'){X:Nat->Nat->Prop}(l:∀b o,X b o->w.heap.size<=b/\b<w'.heap.size):
 After (·∈([]:List Nat)) w I w' (imNew I X):=by
 have j:Ext w I w' (imNew I X):=⟨λb o h=>⟨.inl h,by simp only[World.cell?,a.block b (d.1 b o h)]⟩,λb h=>⟨h,a.block b (d.2.1 b h)⟩⟩
 exact ⟨j,λb e _=>a.block b e,a.size,λb o h=>h.imp id λh=>.inl (l b o h).1,λb h=>.inl h,
  λb o h=>h.elim (λh=>AO (d.1 b o h) a.size) λh=>(l b o h).2,λb h=>AO (d.2.1 b h) a.size,a.os,a.tape,a.output,d.2.2.ext j⟩
theorem FunOK.given{P:Program}{f:Nat}{s:FSpec}(h:∀(w:World) (I:Im) (v:TupR s.ps) (args:List Value) (bs:List Nat),HQ w I->ShL P w I s.ps v args bs->∀r,s.F v=some r->bs=[]/\
 Calls P f args.toArray w λe a=>∃l d X,e=.returned l/\d.length=s.rs.length/\MD d l/\Below w.heap.size w a/\(s.dr=true->w.drawn<=a.drawn)/\(∀b o,X b o->w.heap.size<=b/\b<a.heap.size)/\
  ShL P a (imNew I X) (s.rs++s.ps.filter EU) r (d++I7 s.ps args) []):FunOK P f s:=by
 intro w I v args bs p j x r y;obtain⟨rfl,m⟩:=h w I v args bs p j r y;refine m.mono λe a ⟨l,d,X,h1,z,A,B,E,C,D⟩=>?_;grind[imNew,After.below]
def noX:Nat->Nat->Prop:=λ_ _=>False
theorem noX_ok{w w':World}:∀b o,noX b o->w.heap.size<=b/\b<w'.heap.size:=λ_ _ h=>h.elim
section
variable{P:Program}{w:World}{I:Im}
theorem in_str{x:DL}(h:VRel w I .str x v):v=.string ⟨x.toArray⟩/\x.length<=281474976710656:=by obtain⟨c,h1,a,b⟩:=h;have h1:c=[v]:=h1;grind
theorem pN{k:IntKind}{n:Int}(h:VRel w I (.int k) n v):v=.int k n/\FZ k n:=by obtain⟨c,h1,a,b⟩:=h;have h1:c=[v]:=h1;grind
theorem APh{b:Bool}(h:VRel w I .bool b v):v=.bool b:=by obtain⟨c,h1,a⟩:=h;have h1:c=[v]:=h1;have a:c=[.bool b]:=a;grind
theorem OE{x:DL}(h:x.length<=281474976710656):VRel w I .str x (.string ⟨x.toArray⟩):=⟨_,rfl,rfl,h⟩
theorem out_int{k:IntKind}{n:Int}(h:FZ k n):VRel w I (.int k) n (.int k n):=⟨_,rfl,rfl,h⟩
theorem A0e{b:Bool}:VRel w I .bool b (.bool b):=⟨_,rfl,rfl⟩
theorem in1{x:a.T}{bs:List Nat}(h:ShL P w I [.val a] x args bs):bs=[]/\∃v,args=[v]/\VRel w I a x v:=by obtain⟨v,rfl,h1,rfl⟩:=h;grind
theorem QP{b:Ty}{x:a.T×b.T}{bs:List Nat}(h:ShL P w I [.val a,.val b] x args bs):bs=[]/\∃v u,args=[v,u]/\VRel w I a x.1 v/\VRel w I b x.2 u:=by obtain⟨v,l,d,e,rfl,rfl,⟨h1,rfl⟩,u,rfl,j,rfl⟩:=h;grind
theorem NH{x:a.T}(h:VRel w I a x v):ShL P w I [.val a] x [v] []:=⟨v,rfl,h,rfl⟩
theorem APi{b:Ty}{x:a.T×b.T}{u:Value}(h:VRel w I a x.1 v)(k:VRel w I b x.2 u):ShL P w I [.val a,.val b] x [v,u] []:=
 ⟨v,[u],[],[],rfl,rfl,⟨h,rfl⟩,u,rfl,k,rfl⟩
theorem out3{b c:Ty}{x:a.T×b.T×c.T}{u t:Value}(h:VRel w I a x.1 v)(k:VRel w I b x.2.1 u)(m:VRel w I c x.2.2 t):ShL P w I [.val a,.val b,.val c] x [v,u,t] []:=
 ⟨v,[u,t],[],[],rfl,rfl,⟨h,rfl⟩,u,[t],[],[],rfl,rfl,⟨k,rfl⟩,t,rfl,m,rfl⟩
end
theorem FunOK.flat1{P:Program}{f:Nat}{s:FSpec}{t:Ty}(d:s.rs=[.val t])(A:s.ps.filter EU=[])(p:∀args,I7 s.ps args=[])
 (h:∀ (w:World) (I:Im) (v:TupR s.ps) (args:List Value) (bs:List Nat),HQ w I->ShL P w I s.ps v args bs->∀ r,s.F v=some r->bs=[] /\
  ∃a,(∀b I',ShL P b I' (s.rs++s.ps.filter EU) r [a] [])/\Calls P f args.toArray w λe b=>e=.returned a/\Below w.heap.size w b/\(s.dr=true->w.drawn<=b.drawn)):FunOK P f s:=by
 refine FunOK.given λw I v args bs z j r B=>?_;have⟨h1,a,C,l⟩:=h w I v args bs z j r B;refine⟨h1,l.mono λe b ⟨y,m,x⟩=>⟨a,[a],noX,y,by rw[d];rfl,rfl,m,x,noX_ok,?_⟩⟩;grind
end Go.Ev
namespace Go.Proofs
open Tryz
theorem fk{α:Type}{a:Option α}{b c:α}(h:a=some b)(k:b=c:=by kernel_rfl):a=some c:=h.trans (congrArg some k)
open Go.Shelf
def ur:Go.Shelf.Ren:=⟨λ|169=>129|n=>n,λ|70=>264|9=>9|0=>0|72=>267|37=>265|127=>349|3=>3|5=>5|n=>n,λ|n=>n⟩
theorem vn:Go.Proofs.Lays.n169 Tryz.prog ur:=by repeat' first|(intros;kernel_rfl)|decide|constructor
theorem tz:Builder.Extra Tryz.prog ur:=by repeat' first|(intros;kernel_rfl)|decide|constructor
def uv:Go.Shelf.Ren:=⟨λ|158=>365|165=>155|166=>128|167=>127|169=>129|230=>156|203=>379|240=>192|241=>222|197=>223|118=>224|168=>225|270=>226|262=>227|276=>267|277=>291|260=>292|242=>293|313=>294|278=>329|274=>330|275=>331|n=>n,λ|9=>9|4=>4|3=>3|5=>5|72=>267|0=>0|76=>272|75=>270|107=>306|70=>264|20=>20|37=>265|127=>349|21=>21|105=>377|164=>418|162=>442|203=>440|119=>484|46=>281|139=>487|138=>486|51=>364|160=>488|208=>527|206=>525|80=>111|n=>n,λ|13=>1|3=>2|4=>3|n=>n⟩
theorem vo:Go.Proofs.Lays.n158 Tryz.prog uv:=by repeat' first|(intros;kernel_rfl)|decide|constructor
theorem ua:Builder.Extra Tryz.prog uv:=by repeat' first|(intros;kernel_rfl)|decide|constructor
abbrev tj:=Any.strings_ToUpper_ascii vo ua
def uw:Go.Shelf.Ren:=⟨λ|159=>86|165=>155|166=>128|167=>127|169=>129|230=>156|204=>157|240=>192|241=>222|197=>223|118=>224|168=>225|270=>226|262=>227|276=>267|277=>291|260=>292|242=>293|313=>294|278=>329|274=>330|275=>331|n=>n,λ|9=>9|4=>4|3=>3|5=>5|72=>267|0=>0|76=>272|75=>270|107=>306|70=>264|20=>20|37=>265|127=>349|21=>21|105=>377|164=>418|162=>442|203=>440|119=>484|46=>281|139=>487|138=>486|51=>364|160=>488|208=>527|206=>525|80=>111|n=>n,λ|13=>1|3=>2|4=>3|n=>n⟩
theorem vq:Go.Proofs.Lays.n159 Tryz.prog uw:=by repeat' first|(intros;kernel_rfl)|decide|constructor
theorem ub:Builder.Extra Tryz.prog uw:=by repeat' first|(intros;kernel_rfl)|decide|constructor
def ux:Go.Shelf.Ren:=⟨λ|156=>125|165=>155|166=>128|169=>129|240=>192|241=>222|276=>267|277=>291|n=>n,λ|31=>31|9=>9|3=>3|4=>4|0=>0|20=>20|72=>267|76=>272|70=>264|37=>265|75=>270|127=>349|164=>418|5=>5|80=>111|n=>n,λ|n=>n⟩
theorem vr:Go.Proofs.Lays.n156 Tryz.prog ux:=by repeat' first|(intros;kernel_rfl)|decide|constructor
theorem uc:Builder.Extra Tryz.prog ux:=by repeat' first|(intros;kernel_rfl)|decide|constructor
abbrev ud:=Any.strings_Join_none vr uc
abbrev un:=Any.strings_Join vr uc
def uy:Go.Shelf.Ren:=⟨λ|137=>63|217=>123|266=>190|n=>n,λ|9=>9|5=>5|3=>3|n=>n,λ|n=>n⟩
theorem vu:Go.Proofs.Lays.n137 Tryz.prog uy:=by repeat' first|(intros;kernel_rfl)|decide|constructor
abbrev ue:=Any.strings_IndexByte vu
def uz:Go.Shelf.Ren:=⟨λ|103=>153|210=>218|206=>288|n=>n,λ|9=>9|4=>4|24=>302|3=>3|n=>n,λ|n=>n⟩
theorem vv:Go.Proofs.Lays.n103 Tryz.prog uz:=by repeat' first|(intros;kernel_rfl)|decide|constructor
abbrev uf:=Any.strings_CutPrefix vv
def uo:Go.Shelf.Ren:=⟨λ|171=>208|243=>281|246=>319|283=>354|284=>355|285=>356|286=>357|129=>205|317=>373|318=>374|319=>375|320=>376|337=>383|338=>384|n=>n,λ|3=>3|9=>9|2=>2|4=>4|171=>514|0=>0|53=>366|37=>265|5=>5|173=>516|212=>532|51=>364|20=>20|213=>533|46=>281|232=>539|233=>540|n=>n,λ|17=>6|18=>7|19=>8|n=>n⟩
theorem vj:Go.Proofs.LaysM.n171 Tryz.prog uo:=by repeat' first|(intros;kernel_rfl)|decide|constructor
def uq:Go.Shelf.Ren:=⟨λ|172=>210|244=>284|245=>285|247=>321|279=>322|280=>323|281=>324|282=>325|287=>359|316=>360|171=>208|205=>361|321=>377|322=>378|243=>281|246=>319|283=>354|284=>355|285=>356|286=>357|129=>205|317=>373|318=>374|319=>375|320=>376|337=>383|338=>384|n=>n,λ|9=>9|3=>3|75=>270|76=>272|4=>4|5=>5|167=>477|37=>265|0=>0|85=>478|2=>2|168=>480|53=>366|175=>518|46=>281|210=>521|127=>349|145=>537|143=>535|21=>21|171=>514|173=>516|212=>532|51=>364|20=>20|213=>533|232=>539|233=>540|80=>111|n=>n,λ|15=>4|16=>5|17=>6|18=>7|19=>8|n=>n⟩
theorem vl:Go.Proofs.LaysC.n172 Tryz.prog uq:=by repeat' first|(intros;kernel_rfl)|decide|constructor
abbrev ui:=Any.strconv_Atoi_ok vl
abbrev tp:=Any.strconv_Atoi_syntax vl
abbrev tt:=Any.strconv_Atoi_range vl
def v0:Go.Shelf.Ren:=⟨λ|145=>145|220=>213|219=>287|217=>123|225=>326|224=>327|267=>328|266=>190|314=>362|n=>n,λ|9=>9|4=>4|59=>295|3=>3|5=>5|46=>281|146=>510|51=>364|n=>n,λ|1=>0|n=>n⟩
theorem vw:Go.Proofs.Lays.n145 Tryz.prog v0:=by repeat' first|(intros;kernel_rfl)|decide|constructor
abbrev v4:=Any.strings_Cut vw
def v6:Go.Shelf.Ren:=⟨λ|189=>255|125=>134|257=>307|128=>204|129=>205|294=>341|295=>342|296=>343|297=>344|298=>345|299=>346|216=>347|300=>348|301=>349|328=>369|329=>276|330=>277|331=>370|332=>371|215=>176|343=>382|n=>n,λ|28=>27|3=>3|46=>281|0=>0|51=>364|53=>366|4=>4|183=>358|182=>357|131=>105|5=>5|9=>9|218=>424|222=>428|228=>471|229=>472|n=>n,λ|n=>n⟩
theorem vy:Go.Proofs.Lays.n189 Tryz.prog v6:=by repeat' first|(intros;kernel_rfl)|decide|constructor
abbrev uj:=Any.slices_Sort_int vy
def v7:Go.Shelf.Ren:=⟨λ|149=>149|222=>214|n=>n,λ|9=>9|5=>5|3=>3|4=>4|n=>n,λ|n=>n⟩
theorem vz:Go.Proofs.Lays.n149 Tryz.prog v7:=by repeat' first|(intros;kernel_rfl)|decide|constructor
abbrev tl:=Any.strings_LastIndexByte vz
def vg:Go.Shelf.Ren:=⟨λ|99=>290|206=>288|n=>n,λ|9=>9|4=>4|3=>3|n=>n,λ|n=>n⟩
theorem wi:Go.Proofs.Lays.n99 Tryz.prog vg:=by repeat' first|(intros;kernel_rfl)|decide|constructor
abbrev ug:=Any.strings_HasPrefix wi
def v8:Go.Shelf.Ren:=⟨λ|101=>150|208=>215|206=>288|n=>n,λ|9=>9|4=>4|3=>3|n=>n,λ|n=>n⟩
theorem wb:Go.Proofs.Lays.n101 Tryz.prog v8:=by repeat' first|(intros;kernel_rfl)|decide|constructor
abbrev tv:=Any.strings_TrimPrefix wb
def vb:Go.Shelf.Ren:=⟨λ|146=>122|221=>189|268=>264|138=>265|143=>266|195=>311|197=>223|218=>312|219=>287|260=>292|217=>123|225=>326|224=>327|267=>328|266=>190|314=>362|n=>n,λ|9=>9|31=>31|3=>3|4=>4|0=>0|105=>377|21=>21|5=>5|46=>281|119=>484|139=>487|138=>486|146=>510|51=>364|n=>n,λ|1=>0|3=>2|4=>3|n=>n⟩
theorem wc:Go.Proofs.Lays.n146 Tryz.prog vb:=by repeat' first|(intros;kernel_rfl)|decide|constructor
open Go.RowKit Go.Lib in
theorem ul(s sep:ByteArray)(m:Int)(w:World)(a:s.size<4294967281)(h:w.cell? ⟨0,0,none⟩=some (.int .i64 m))(h1:1<=sep.size):
 Calls Tryz.prog 122 #[.string s,.string sep] w λe b=>e=.returned (.slice (some ⟨w.heap.size,0,none⟩) (Lib.countB s sep+1) (Lib.countB s sep+1))/\b=w.alloc (.cells ((Lib.splitB sep 0 (Lib.countB s sep) s).map Value.string).toArray 9):=Any.strings_Split wc oe s sep m w a h h1
def vc:Go.Shelf.Ren:=⟨λ|105=>280|212=>317|99=>290|165=>155|166=>128|170=>318|169=>129|263=>352|264=>353|206=>288|240=>192|241=>222|276=>267|277=>291|n=>n,λ|9=>9|3=>3|4=>4|20=>20|0=>0|46=>281|109=>474|5=>5|72=>267|76=>272|51=>364|146=>510|53=>366|148=>512|70=>264|37=>265|75=>270|127=>349|164=>418|80=>111|n=>n,λ|n=>n⟩
theorem wd:Go.Proofs.Lays.n105 Tryz.prog vc:=by repeat' first|(intros;kernel_rfl)|decide|constructor
theorem uh:Builder.Extra Tryz.prog vc:=by repeat' first|(intros;kernel_rfl)|decide|constructor
abbrev uk:=Any.strings_Repeat wd uh
def vd:Go.Shelf.Ren:=⟨λ|229=>219|n=>n,λ|9=>9|40=>376|31=>31|152=>435|3=>3|0=>0|4=>4|21=>21|154=>437|n=>n,λ|n=>n⟩
theorem we:Go.Proofs.Lays.n229 Tryz.prog vd:=by repeat' first|(intros;kernel_rfl)|decide|constructor
abbrev tq:=Any.strings_ToLower_any vq ub
def um:Go.Shelf.Ren:=⟨λ|20=>160|n=>n,λ|22=>27|3=>3|4=>4|0=>0|n=>n,λ|n=>n⟩
theorem vi:Go.Proofs.Lays2.n20 Tryz.prog um:=by repeat' first|(intros;kernel_rfl)|decide|constructor
abbrev tw:=Any.slices_Compact_int vi
abbrev t4:=Any.slices_Compact_int_empty vi
abbrev tn:=Any.slices_Sort_int_none vy
end Go.Proofs
namespace Go.Ev.Pv
variable{P:Program}{w w':World}{n b:Nat}{I:Im}{cells:Array Value}{el:TypeId}
open Go.Proofs Go.RowKit Go.Lib
def HoldsTab(w:World)(g:Nat)(k:IntKind)(zs:List Int):Prop:=∃el fz,w.heap[g]?=some (.cells (zs.map λz=>Value.int k z).toArray el fz)
theorem APj{n:String}{g:Nat}{k:IntKind}{z:List Int}(a:P.globalNamed n=some g)(h:HoldsTab w g k z):Lib.TabIs P w n k z:=by obtain⟨el,fz,h⟩:=h;simp_all[Lib.TabIs,World.var?,A0]
theorem A8R{o:Go.Obj}(h:w.heap[b]?=some o):b<w.heap.size:=(B1.1 h).1
def Facts(w:World):Prop:=
 HoldsTab w 6 .u64 Lib.pow10Tab/\CaseVar 1 caseA w/\Lib.Utf8Tabs 2 3 w/\(∃m,w.cell? ⟨0,0,none⟩=some (.int .i64 m))/\
 (∃ev,w.cell? ⟨4,0,none⟩=some ev/\(ev=.nilIface\/∃te pe,ev=.iface te pe))/\(∃ev,w.cell? ⟨5,0,none⟩=some ev/\(ev=.nilIface\/∃te pe,ev=.iface te pe))
theorem cE{o:Nat}{v:Value}(h:w.cell? ⟨b,o,none⟩=some v):b<w.heap.size:=by apply BI;grind[World.cell?,Array.getElem?_eq_none,Nat.le_of_not_lt]
theorem Facts.below(h:Facts w)(a:Below w.heap.size w w'):Facts w':=by obtain⟨h1,x,y,⟨m,e⟩,⟨p,j,b⟩,s,l,d⟩:=h;exact⟨(let ⟨el,fz,h1⟩:=h1;⟨el,fz,(a.block 6 (A8R h1)).trans h1⟩),CaseVar_below x a,Utf8Tabs_below y a,⟨m,(a.cell (cE e)).trans e⟩,⟨p,(a.cell (cE j)).trans j,b⟩,s,(a.cell (cE l)).trans l,d⟩
theorem Facts.later(h:Facts w)(a:∀b,b<w.heap.size->w'.heap[b]?=w.heap[b]?):Facts w':=by
 have j:w.heap.size<=w'.heap.size:=by apply BI;intro l;have h1:=a w'.heap.size oa;rw[Array.getElem?_eq_none (AD _),AU oa]at h1;cases h1
 have e:Below w.heap.size w {w' with os:=w.os,tape:=w.tape,output:=w.output}:=⟨rfl,rfl,rfl,j,a⟩;have d:=h.below e;exact d
noncomputable instance:Pins:=⟨Tryz.prog,λw I=>∃w0,Facts w0/\∀b,b<w0.heap.size->I.obj b/\w.heap[b]?=w0.heap[b]?,
 λ⟨w0,h1,h2⟩ e=>⟨w0,h1,λb hb=>⟨(e.obj b (h2 b hb).1).1,(e.obj b (h2 b hb).1).2.trans (h2 b hb).2⟩⟩⟩
theorem facts(h:HQ w I):Facts w:=let ⟨_,h1,h2⟩:=h.2.2;h1.later λb a=>(h2 b a).2
theorem entered{f:Nat}{fn:Func}(h:Tryz.prog.funcs[f]?=some fn)(b:(fn.name== "runtime.NumGoroutine")=false)(a:fn.body=some (EC fn)):FK Tryz.prog f:=⟨fn,_,h,b,a⟩
def APk:FSpec:=⟨[.val (.int .i64)],[.val .str],strconv_Itoa,true⟩
theorem OF:FK Go.Proofs.Tryz.prog 208/\FunOK Go.Proofs.Tryz.prog 208 APk:=by
 refine⟨entered Tryz.func208 oe oe,FunOK.flat1 (t:=.str) rfl rfl (λa=>by cases a<;>rfl) λw I v a bs d h r j=>?_⟩;obtain⟨rfl,x,rfl,m⟩:=in1 h;obtain⟨rfl,h0,h1⟩:=pN m;cases j;refine⟨rfl,.string ⟨(RV v).toArray⟩,λw' I'=>NH (OE (AM (A3Y v) oi)),?_⟩;rw[AIE h0 h1];refine(Any.strconv_Itoa vj v h0 h1 w (APj (g:=6) oe (facts d).1)).mono λe w' ⟨b,k,os,l⟩=>⟨b,?_,λ_=>?_⟩
 .simp_all[Lib.below_grow,AD]
 .rw[l];exact Nat.le_add_right _ _
theorem UG{D:Prop}(h:w'=w):Below w.heap.size w w'/\(D->w.drawn<=w'.drawn):=by simp_all[Below.refl,AD]
theorem A8S{D:Prop}(h:∃n,w'=w.drewN n):Below w.heap.size w w'/\(D->w.drawn<=w'.drawn):=by obtain⟨n,rfl⟩:=h;exact⟨⟨rfl,rfl,rfl,AD _,λ_ _=>rfl⟩,λ_=>Nat.le_add_right _ _⟩
theorem cF{a:DL}(h:a.length<n):(⟨a.toArray⟩:ByteArray).size<n:=by assumption
theorem APl{a:DL}{k:Nat}(h:a.length*k<=n):(⟨a.toArray⟩:ByteArray).size*k<=n:=by assumption
theorem APm(s p:DL):(Lib.cut s p).1.length<=s.length/\(Lib.cut s p).2.1.length<=s.length:=by grind[Lib.cut,List.length_take,List.length_drop]
theorem APn{s:DL}{k:Nat}(h:s.length*k<=140737488355328):(Lib.repeatL s k).length<=281474976710656:=by rw[Lib.repeatL_length,CY];omega
theorem i64_of{n:Int}(h1:-9223372036854775808<=n)(h:n<=9223372036854775807):FZ .i64 n:=⟨h1,h⟩
theorem APo{n:Int}(h:FZ .i64 n):n<=9223372036854775807:=h.2
theorem APp(c:UInt8):∀l:List UInt8,Lib.indexByte l c<=l.length:=by intro l;induction l<;>grind[Lib.indexByte,List.length_cons]
def APq:FSpec:=⟨[.val .str,.val (.int .u8)],[.val (.int .i64)],strings_IndexByte,true⟩
theorem cG:FK Go.Proofs.Tryz.prog 63/\FunOK Go.Proofs.Tryz.prog 63 APq:=by
 refine⟨entered Tryz.func63 oe oe,FunOK.flat1 (t:=.int .i64) rfl rfl (λa=>by rcases a with _|⟨_,_|⟨_,_⟩⟩<;>rfl) λw I v a bs s b r h=>?_⟩;obtain⟨rfl,x,y,rfl,l,m⟩:=QP b;obtain⟨rfl,h0⟩:=in_str l;obtain⟨rfl,h1⟩:=pN m;have⟨p,h⟩:=OR h;cases h;refine⟨rfl,_,λw' I'=>NH (out_int (k:=.i64) (n:=Lib.indexByte v.1 v.2.toNat.toUInt8) ?_),?_⟩
 .have k1:=APp v.2.toNat.toUInt8 v.1;have z:=Lib.indexByte_ge v.1 v.2.toNat.toUInt8;exact i64_of oa oa
 .exact(ue ⟨v.1.toArray⟩ v.2 w).mono λe w' ⟨d,j⟩=>⟨d,UG j⟩
theorem APr(s:ByteArray)(c:Int):∀k,-1<=Lib.lastIdx s c k/\Lib.lastIdx s c k<=k:=by intro k;induction k<;>grind[zero,Lib.lastIdx]
def APs:FSpec:=⟨[.val .str,.val (.int .u8)],[.val (.int .i64)],strings_LastIndexByte,true⟩
theorem APt:FK Go.Proofs.Tryz.prog 149/\FunOK Go.Proofs.Tryz.prog 149 APs:=by
 refine⟨entered Tryz.func149 oe oe,FunOK.flat1 (t:=.int .i64) rfl rfl (λa=>by rcases a with _|⟨_,_|⟨_,_⟩⟩<;>rfl) λw I v a bs z b r h=>?_⟩;obtain⟨rfl,x,y,rfl,p,s⟩:=QP b;obtain⟨rfl,h0⟩:=in_str p;obtain⟨rfl,h1⟩:=pN s;have⟨j,h⟩:=OR h;cases h;have d:(⟨v.1.toArray⟩:ByteArray).size=v.1.length:=OL v.1;refine⟨rfl,_,λw' I'=>NH (out_int (k:=.i64) (n:=Lib.lastIndexByte ⟨v.1.toArray⟩ v.2) ?_),?_⟩
 .have k1:=APr ⟨v.1.toArray⟩ v.2 (⟨v.1.toArray⟩:ByteArray).size;have A:((⟨v.1.toArray⟩:ByteArray).size:Int)=(v.1.length:Nat):=by rw[d]
  unfold Lib.lastIndexByte;exact i64_of oa oa
 .exact(tl ⟨v.1.toArray⟩ v.2 (cF j) w).mono λe w' ⟨l,m⟩=>⟨l,UG m⟩
def APu:FSpec:=⟨[.val .str,.val .str],[.val .bool],strings_HasPrefix,true⟩
theorem A8T:FK Go.Proofs.Tryz.prog 290/\FunOK Go.Proofs.Tryz.prog 290 APu:=by refine⟨entered Tryz.func290 oe oe,FunOK.flat1 (t:=.bool) rfl rfl (λa=>by rcases a with _|⟨_,_|⟨_,_⟩⟩<;>rfl) λw I v a bs p h r d=>?_⟩;obtain⟨rfl,x,y,rfl,l,m⟩:=QP h;obtain⟨rfl,h0⟩:=in_str l;obtain⟨rfl,h1⟩:=in_str m;cases d;exact⟨rfl,_,λw' I'=>NH A0e,(ug ⟨v.1.toArray⟩ ⟨v.2.toArray⟩ w).mono λe w' ⟨b,j⟩=>⟨b,UG j⟩⟩
def APv:FSpec:=⟨[.val .str,.val .str],[.val .str],strings_TrimPrefix,true⟩
theorem APw:FK Go.Proofs.Tryz.prog 150/\FunOK Go.Proofs.Tryz.prog 150 APv:=by refine⟨entered Tryz.func150 oe oe,FunOK.flat1 (t:=.str) rfl rfl (λa=>by rcases a with _|⟨_,_|⟨_,_⟩⟩<;>rfl) λw I v a bs p h r d=>?_⟩;obtain⟨rfl,x,y,rfl,l,m⟩:=QP h;obtain⟨rfl,h0⟩:=in_str l;obtain⟨rfl,h1⟩:=in_str m;cases d;exact⟨rfl,_,λw' I'=>NH (OE (AM (oL v.1 v.2) h0)),(tv ⟨v.1.toArray⟩ ⟨v.2.toArray⟩ w).mono λe w' ⟨b,j⟩=>⟨b,UG j⟩⟩
def APx:FSpec:=⟨[.val .str,.val .str],[.val .str,.val .bool],strings_CutPrefix,true⟩
theorem APy:FK Go.Proofs.Tryz.prog 153/\FunOK Go.Proofs.Tryz.prog 153 APx:=by refine⟨entered Tryz.func153 oe oe,FunOK.given λw I v a bs p h r j=>?_⟩;obtain⟨rfl,x,y,rfl,l,m⟩:=QP h;obtain⟨rfl,h0⟩:=in_str l;obtain⟨rfl,h1⟩:=in_str m;cases j;refine⟨rfl,(uf ⟨v.1.toArray⟩ ⟨v.2.toArray⟩ w).mono λe w' ⟨d,b⟩=>⟨_,[_,_],noX,d,rfl,rfl,(UG (D:=True) b).1,λ_=>(UG b).2 trivial,noX_ok,?_⟩⟩;exact APi (a:=.str) (b:=.bool) (x:=(Lib.trimPrefix v.1 v.2,Lib.hasPrefix v.1 v.2)) (OE (AM (oL v.1 v.2) h0)) A0e
def APz:FSpec:=⟨[.val .str,.val .str],[.val .str,.val .str,.val .bool],strings_Cut,true⟩
theorem A8U:FK Go.Proofs.Tryz.prog 145/\FunOK Go.Proofs.Tryz.prog 145 APz:=by refine⟨entered Tryz.func145 oe oe,FunOK.given λw I v d bs z b r a=>?_⟩;obtain⟨rfl,x,y,rfl,A,B⟩:=QP b;obtain⟨rfl,h0⟩:=in_str A;obtain⟨rfl,h1⟩:=in_str B;have⟨p,a⟩:=OR a;cases a;have⟨m,h⟩:=(facts z).2.2.2.1;refine⟨rfl,(v4 ⟨v.1.toArray⟩ ⟨v.2.toArray⟩ m w (cF p) h).mono λe w' ⟨s,l⟩=>⟨_,[_,_,_],noX,s,rfl,rfl,(A8S (D:=True) l).1,λ_=>(A8S l).2 trivial,noX_ok,?_⟩⟩;have j:=APm v.1 v.2;exact out3 (a:=.str) (b:=.str) (c:=.bool) (x:=Lib.cut v.1 v.2) (OE (AM j.1 h0)) (OE (AM j.2 h0)) A0e
def AQ0:FSpec:=⟨[.val .str,.val (.int .i64)],[.val .str],strings_Repeat,false⟩
theorem AQ1:FK Go.Proofs.Tryz.prog 280/\FunOK Go.Proofs.Tryz.prog 280 AQ0:=by
 refine⟨entered Tryz.func280 oe oe,FunOK.flat1 (t:=.str) rfl rfl (λa=>by rcases a with _|⟨_,_|⟨_,_⟩⟩<;>rfl) λw I v a bs C j r d=>?_⟩;obtain⟨rfl,x,y,rfl,A,B⟩:=QP j;obtain⟨rfl,h0⟩:=in_str A;obtain⟨rfl,h1⟩:=pN B;have⟨⟨m,l⟩,d⟩:=OR d;cases d;have s:((v.2.toNat:Nat):Int)=v.2:=Int.toNat_of_nonneg m
 have hk:v.2.toNat<=9223372036854775807:=by have:=APo h1;omega
 have b:=APn l;refine⟨rfl,_,λw' I'=>NH (OE b),?_⟩;have:=uk ⟨v.1.toArray⟩ v.2.toNat w hk (APl l);rw[s]at this;exact this.mono λe w' ⟨p,z⟩=>⟨p,z,λh=>oq⟩
def AQ2:FSpec:=⟨[.val .str],[.val .str],ZE,false⟩
theorem A8V:FK Go.Proofs.Tryz.prog 86/\FunOK Go.Proofs.Tryz.prog 86 AQ2:=by refine⟨entered Tryz.func86 oe oe,FunOK.flat1 (t:=.str) rfl rfl (λa=>by cases a<;>rfl) λw I v a bs j d r b=>?_⟩;obtain⟨rfl,x,rfl,y⟩:=in1 d;obtain⟨rfl,h0⟩:=in_str y;have⟨l,b⟩:=OR b;obtain⟨rfl,m⟩:=str?_some b;exact⟨rfl,_,λw' I'=>NH (OE m),(tq ⟨v.toArray⟩ w (cF l) (facts j).2.1 (facts j).2.2.1).mono λe w' ⟨p,s⟩=>⟨p,s,λh=>oq⟩⟩
theorem AQ3(w:World)(t:TypeId)(s:ByteArray):Below w.heap.size w (Lib.bytesWorld w t s):=by unfold Lib.bytesWorld;exact Lib.below_freeze (((Below.refl _ _).drew).alloc (AD _) _) (p:=⟨w.heap.size,_,none⟩) (AD _) _
def AQ4:FSpec:=⟨[.val .str],[.val (.int .i64),.any],fO,false⟩
theorem A0f{n:Int}(h:FZ .i64 n)(v:Value):ShL P w I [.val (.int .i64),.any] (n,()) [.int .i64 n,v] []:=
 ⟨_,_,[],[],rfl,rfl,⟨out_int h,rfl⟩,v,rfl,rfl⟩
theorem AQ5{s:DL}{v:Int}(h:Lib.atoiAll s=.ok v):FZ .i64 v:=by unfold Lib.atoiAll at h;grind[i64_of]
theorem AQ6(s:DL):FZ .i64 (Lib.atoiSat s):=by grind[Lib.atoiSat,i64_of]
theorem strconv_Atoi_ok:FK Go.Proofs.Tryz.prog 210/\FunOK Go.Proofs.Tryz.prog 210 AQ4:=by
 refine⟨entered Tryz.func210 oe oe,FunOK.given λw I v y bs D s r a=>?_⟩;obtain⟨rfl,x,rfl,E⟩:=in1 s;obtain⟨rfl,h0⟩:=in_str E;have⟨G,a⟩:=OR a;have p:(⟨Array.mk v⟩:ByteArray).size<=281474976710656:=by have:=cF (a:=v) (n:=281474976710657) oa;exact Nat.le_of_lt_succ this
 refine⟨rfl,?_⟩;have⟨_,_,_,_,⟨z,B,l⟩,A,C,m⟩:=facts D;cases b:Lib.atoiAll v
 .rename_i n;rw[b]at a;dsimp only at a;cases a;refine(ui ⟨v.toArray⟩ (AM p oi) n b w).mono λe w' ⟨d,j⟩=>⟨_,[_,_],noX,d,rfl,rfl,?_,(λh=>oq),noX_ok,A0f (AQ5 b) _⟩;rcases j with rfl|⟨t,rfl⟩
  .exact Below.refl _ _
  .exact AQ3 _ _ _
 .rw[b]at a;dsimp only at a;cases a;exact(tp ⟨v.toArray⟩ p b z w B l).mono λe w' ⟨N,d,_,_,j⟩=>⟨_,[_,_],noX,d,rfl,rfl,j,(λh=>oq),noX_ok,A0f (i64_of oi oi) _⟩
 .rw[b]at a;dsimp only at a;cases a;exact(tt ⟨v.toArray⟩ p b A w C m).mono λe w' ⟨N,d,_,_,j⟩=>⟨_,[_,_],noX,d,rfl,rfl,j,(λh=>oq),noX_ok,A0f (AQ6 v) _⟩
theorem AQ7{P:Program}{X:Nat->Nat->Prop}{cap:Nat}{xs:List DL}{fz:Nat×Nat}(p:w.heap[b]?=some (.cells cells el fz))(a:xs.length<=cap)(z:xs.length<=281474976710656)
 (s:∀(i:Nat) x,xs[i]?=some x->cells[i]?=some (.string ⟨x.toArray⟩))(A:∀x∈xs,x.length<=281474976710656)(B:∀o,o<xs.length->X b o):
 VRel w (imNew I X) (.slice .str) xs (.slice (some ⟨b,0,none⟩) xs.length cap):=by
 refine⟨_,rfl,_,_,rfl,⟨a,z⟩,(λh=>oq),λad d=>?_⟩;cases d;refine⟨λ_=>rfl,λi x m=>⟨[.string ⟨(show DL from x).toArray⟩],⟨rfl,λj y=>?_⟩,rfl,A x (AH m)⟩⟩;have l:j=0:=by have:j<1:=y;omega
 subst l;have e:(0+i*Ty.str.sz+0)=i:=by show 0+i*1+0=i;omega
 have hi:i<xs.length:=(A3.1 m).1;refine⟨.inr ?_,?_⟩
 .grind
 .show w.cell? ⟨b,0+i*Ty.str.sz+0,none⟩=_;rw[e];simp only[World.cell?,p,s i x m];rfl
theorem AQ8(sep:ByteArray)(h1:1<=sep.size):∀(k:Nat) (s:ByteArray),Lib.countB s sep=k->(Lib.splitB sep 0 k s).length=k+1:=by
 intro k;induction k with
 |zero=>intro s _;rfl
 |succ k a=>
  intro s hk;by_cases b:Lib.indexB s sep= -1
  .grind[Lib.countB_miss]
  .have h:=Lib.index_ge s.data.toList sep.data.toList;obtain⟨i,hi⟩:∃i:Nat,Lib.indexB s sep=i:=⟨(Lib.indexB s sep).toNat,oc⟩;rw[Lib.splitB_hit sep 0 k s i hi,BL,a];grind[Lib.countB_hit]
theorem AQ9(sep:ByteArray)(n:Nat):∀(k:Nat) (s:ByteArray),s.size<=n->∀x∈Lib.splitB sep 0 k s,x.size<=n:=by
 intro k;induction k with
 |zero=>grind[Lib.splitB_zero,List.mem_singleton]
 |succ k b=>
  intro s a x h;unfold Lib.splitB at h;split at h
  .grind
  .rcases A_.1 h with rfl|h
   .rw[CG];omega
   grind[ByteArray.size_extract]
def AQA:FSpec:=⟨[.val .str,.val .str],[.own 9 .str false],strings_Split,true⟩
theorem A8W:FK Go.Proofs.Tryz.prog 122/\FunOK Go.Proofs.Tryz.prog 122 AQA:=by
 refine⟨entered Tryz.func122 oe oe,λw I v K bs B J W r H=>?_⟩;obtain⟨rfl,x,y,rfl,l,X⟩:=QP J;obtain⟨rfl,h0⟩:=in_str l;obtain⟨rfl,h1⟩:=in_str X;have⟨⟨M,T⟩,H⟩:=OR H;cases H;have⟨m,G⟩:=(facts B).2.2.2.1;have s:1<=(⟨Array.mk v.2⟩:ByteArray).size:=T;have a:=AQ8 ⟨Array.mk v.2⟩ s _ ⟨Array.mk v.1⟩ rfl;refine(ul ⟨v.1.toArray⟩ ⟨v.2.toArray⟩ m w (cF M) G s).mono λe w' ⟨V,O⟩=>?_;obtain⟨L,j⟩:∃L,L=Lib.splitB ⟨v.2.toArray⟩ 0 (Lib.countB ⟨v.1.toArray⟩ ⟨v.2.toArray⟩) ⟨v.1.toArray⟩:=⟨_,rfl⟩;have z:∀b∈L,b.size<=v.1.length:=λb p=>AQ9 ⟨v.2.toArray⟩ v.1.length _ ⟨v.1.toArray⟩ (Nat.le_of_eq (OL v.1)) b (j▸p);have A:w'.heap[w.heap.size]?=some (.cells (L.map Value.string).toArray 9 (0,0)):=by rw[O,j];show(w.heap.push _)[w.heap.size]?=_;rw[D2]
 have D:Below w.heap.size w w':=by rw[O];exact(Below.refl _ _).alloc (AD _) _
 have N:Lib.countB ⟨v.1.toArray⟩ ⟨v.2.toArray⟩<=v.1.length+1:=Lib.count_le v.1 v.2;have R:v.1.length<4294967281:=M;have a:L.length=Lib.countB ⟨v.1.toArray⟩ ⟨v.2.toArray⟩+1:=by rw[j];exact a
 have C:L.length<=281474976710656:=oa;have d:(L.map λb=>b.data.toList).length=L.length:=B2 ..;have U:∀b o,(b=w.heap.size/\o<L.length)->w.heap.size<=b/\b<w'.heap.size:=by rintro b o ⟨rfl,_⟩;exact⟨AD _,A8R A⟩
 refine⟨_,[_],imNew I λb o=>b=w.heap.size/\o<L.length,[w.heap.size],V,rfl,rfl,After.below B D U,⟨_,rfl,.inr ⟨w.heap.size,Lib.countB ⟨v.1.toArray⟩ ⟨v.2.toArray⟩+1,(L.map Value.string).toArray,?_,rfl,?_,.of A,?_,?_,(λh=>oq),λ_ o=>?_,λh=>AA _ (B.2.1 _ h)⟩⟩,oh,λk hk=>.inr oc,λ_=>by simp_all⟩
 .rw[<-j];show [Value.slice _ _ _]=[Value.slice _ (L.map λb=>b.data.toList).length _];rw[d,a]
 .rw[<-j];show IS (L.map λb=>b.data.toList).length _;exact⟨AM (Nat.le_of_eq d) (Nat.le_of_eq a),AM (Nat.le_of_eq d) C⟩
 .show(L.map Value.string).toArray.size=_*1;simp[a]
 .rw[<-j];intro i x l;have l:(L.map λb=>b.data.toList)[i]?=some x:=l;rw[AX]at l;cases p:L[i]? with
  |none=>grind
  |some b=>
   rw[p]at l;cases l;have E:=(A3.1 p).1;have Q:(((L.map Value.string).toArray.toList.drop (i*Ty.str.sz)).take Ty.str.sz)=[.string b]:=by show((L.map Value.string).drop (i*1)).take 1=_;rw[CS,BD (by simpa using E)];simp[(A3.1 p).2]
   rw[Q];refine⟨by cases b;simp,?_⟩;have Y:=z b (AH p);have e:b.data.toList.length=b.size:=rfl;grind
 .rw[<-j];show o<(L.map λb=>b.data.toList).length*1<->_;rw[d,CS];exact⟨λh=>.inr ⟨rfl,h⟩,λh=>h.elim (λh=>absurd (B.1 _ _ h) (AA _)) λh=>h.2⟩
theorem AQB{xs:List DL}{v:Value}(h:VRel w I (.slice .str) xs v):
 (∃a d,v=.slice a 0 d/\xs=[])\/∃b o d,v=.slice (some ⟨b,o,none⟩) xs.length d/\b<w.heap.size/\xs.length<=d/\
  ∀(j:Nat) x,xs[j]?=some x->w.cell? ⟨b,o+j,none⟩=some (.string ⟨x.toArray⟩)/\x.length<=281474976710656:=by
 obtain⟨c,h1,a,d,m,p,H,y⟩:=h;have h1:c=[v]:=h1;rw[h1]at m;have m:v=.slice a xs.length d:=AC.1 m;by_cases s:xs=[]
 .grind
 .right;cases a with
  |none=>grind
  |some ad=>
   have⟨e,z⟩:=y ad rfl;obtain⟨b,o,E⟩:=ad;have e:(⟨b,o,E⟩:Addr).spot=none:=e λh0=>s (AF (Nat.le_zero.1 (h0▸p.1)));cases e;have key:∀(j:Nat) x,xs[j]?=some x->w.cell? ⟨b,o+j,none⟩=some (.string ⟨x.toArray⟩)/\x.length<=281474976710656:=by intro j x A;have⟨G,⟨k1,B⟩,C,D⟩:=z j x A;have:=(B 0 Nat.one_pos).2;rw[C]at this;exact⟨oc,D⟩
   have l:0<xs.length:=List.length_pos_iff.2 s;exact⟨b,o,d,m,cE (key 0 xs[0] (A1 l)).1,p.1,key⟩
def AQC:FSpec:=⟨[.val (.slice .str),.val .str],[.val .str],strings_Join,false⟩
theorem cH:FK Go.Proofs.Tryz.prog 125/\FunOK Go.Proofs.Tryz.prog 125 AQC:=by
 refine⟨entered Tryz.func125 oe oe,FunOK.flat1 (t:=.str) rfl rfl (λd=>by rcases d with _|⟨_,_|⟨_,_⟩⟩<;>rfl) λw I v d bs N D r C=>?_⟩;obtain⟨rfl,x,y,rfl,J,L⟩:=QP D;obtain⟨rfl,h1⟩:=in_str L;have⟨⟨M,G⟩,C⟩:=OR C;cases C;obtain⟨s,sep⟩:List DL×DL:=v;have G:(Lib.join s sep).length<=140737488355328:=G;have l:(Lib.join s sep).length<=281474976710656:=oa
 rcases AQB J with⟨a,m,rfl,p⟩|⟨b,o,m,rfl,K,H,z⟩
 .have p:s=[]:=p;subst p;have e:Lib.join [] sep=[]:=by simp[Lib.join,List.intercalate]
  refine⟨rfl,.string ⟨(Lib.join [] sep).toArray⟩,λw' I'=>NH (OE l),?_⟩;rw[e];exact(ud a m ⟨sep.toArray⟩ w).mono λe w' ⟨A,E⟩=>⟨A,UG E⟩
 .refine⟨rfl,.string ⟨(Lib.join s sep).toArray⟩,λw' I'=>NH (OE l),?_⟩;have B:(s.map λx=>(⟨x.toArray⟩:ByteArray)).map (λb=>b.data.toList)=s:=by rw[List.map_map];exact List.map_id _
  have:=un b o m (s.map λx=>⟨x.toArray⟩) ⟨sep.toArray⟩ w (λj x J=>by grind) K oc oc oc
  rw[B,B2]at this;exact this.mono λe w' ⟨A,E⟩=>⟨A,E,λh=>oq⟩
theorem After.toBelow{gv:Nat->Prop}{I':Im}(h:After gv w I w' I')(d:∀b,¬gv b):Below w.heap.size w w':=
 ⟨h.os,h.tape,h.output,h.size,λb a=>h.heap b a (d b)⟩
theorem AQD(a:HQ w I)(d:Below w.heap.size w w'):Ext w I w' I/\HQ w' I:=by have e:Ext w I w' I:=⟨λb o h=>⟨h,by simp only[World.cell?,d.block b (a.1 b o h)]⟩,λb h=>⟨h,d.block b (a.2.1 b h)⟩⟩;exact⟨e,λb o h=>AO (a.1 b o h) d.size,λb h=>AO (a.2.1 b h) d.size,a.2.2.ext e⟩
theorem AQE{g:Nat}(h:FK P g):∀a w,(callFunc g a).run P w=.ok (.enter g a) w:=by obtain⟨fn,c,h1,b,d⟩:=h;simp_all[callFunc]
theorem AQF(p:Nat->Bool)(s:ByteArray):∀x∈Lib.goFieldsP p s,x.size<=s.size:=by intro x h;obtain⟨q,_,rfl⟩:=B_.1 h;rw[CG];omega
def AQG:FSpec:=⟨[.val .str,.hof false (.int .i32) .bool],[.val (.slice .str)],VO,false⟩
theorem AQH:FK Go.Proofs.Tryz.prog 219/\FunOK Go.Proofs.Tryz.prog 219 AQG:=by
 refine⟨entered Tryz.func219 oe oe,FunOK.given λw I v K bs T H r m=>?_⟩;obtain⟨Y,vs,b1,b2,rfl,rfl,⟨d,rfl⟩,Z,rfl,rfl,g,M,B,p,hof⟩:=H;obtain⟨rfl,h0⟩:=in_str d;obtain rfl:=AC.1 B;obtain⟨s,F⟩:DL×(Int->Option Bool):=v;have m:VO (s,F)=some r:=m;unfold VO at m;have⟨⟨h1,Q,h3⟩,m⟩:=OR m;cases m;have U:PredGrows Tryz.prog g M (λr=>(F (r:Int)).getD false) w:=by intro W x d j;have⟨D,E⟩:=AQD T j;have⟨b,a⟩:=Q x d;have a:F (x:Int)=some b:=a;have:=hof W I D E (x:Int) [.int .i32 x] ⟨_,rfl,out_int ⟨by show(-2147483648:Int)<=_;omega,by show _<=(2147483647:Int);omega⟩⟩ b a;refine this.mono λe X ⟨rv,I'',k1,L,J,_⟩=>?_;have G:=APh J;subst G;show e=.returned (.bool ((F (x:Int)).getD false))/\_;rw[a];exact⟨k1,After.toBelow L λ_ h=>h⟩
 have:=Any.strings_FieldsFunc_grows we g M (AQE p) (λr=>(F (r:Int)).getD false) ⟨s.toArray⟩ w (by assumption) U oe oe;refine⟨rfl,this.mono λe w' ⟨A,D,hA,y,C⟩=>?_⟩;obtain⟨_,R|⟨O,z,N,k1,L,J,k4,k5,k6,V⟩⟩:=y
 .cases R.1
 .obtain⟨rfl,rfl⟩:A=O/\(Lib.goFieldsP (λr=>(F (r:Int)).getD false) ⟨s.toArray⟩).length=z:=oc;refine⟨_,[_],λb o=>b=A,D,rfl,rfl,C,(λh=>oq),?_,NH ?_⟩
  .grind
  .have:=AQ7 (P:=Tryz.prog) (I:=I) (X:=λb o=>b=A) (xs:=(Lib.goFieldsP (λr=>(F (r:Int)).getD false) ⟨s.toArray⟩).map λb=>b.data.toList)
    (cap:=(Lib.goFieldsP (λr=>(F (r:Int)).getD false) ⟨s.toArray⟩).length) J oh oc ?_ ?_ (λo _=>rfl)
   .grind
   .intro i x d;rw[AX]at d;cases j:(Lib.goFieldsP (λr=>(F (r:Int)).getD false) ⟨s.toArray⟩)[i]? with
    |none=>grind
    |some b=>rw[j]at d;cases d;have hi:=(A3.1 j).1;have:=congrArg (λl=>l[i]?) V;simp only[B3,AX,j]at this;simp_all
   .intro x d;obtain⟨b,j,rfl⟩:=B_.1 d;have:=AQF _ ⟨s.toArray⟩ b j;rw[OL]at this;have e:b.data.toList.length=b.size:=rfl;rw[e];exact AM this h0
theorem A8X(h:Lay Tryz.prog (.agg GS) el):el=267:=by have a:((List.range Tryz.prog.types.size).all λi=>!(layB Tryz.prog (.agg GS)).1 i||Nat.beq i 267)=true:=oe;have b:el<Tryz.prog.types.size:=AF5 h.inf rfl;have h1:=BT.1 a el (CA.2 b);have d:(layB Tryz.prog (.agg GS)).1 el=true:=h;simp_all
theorem AQI(b:Nat)(w:World)(h0:w.cell? ⟨b,0,none⟩=some (.pointer (some ⟨b,0,none⟩))):
 Calls Tryz.prog 192 #[.pointer (some ⟨b,0,none⟩)] w λe w'=>e=.returned (.tuple #[])/\w'=w:=by
 have m:Tryz.prog.follows .mixedOrders=true:=oe;have p:=Tryz.underlying267;have d:=Tryz.isAgg267;have B:=Tryz.sizeOf267;have z:=Tryz.zeroValue267;have x:=run_underlying Tryz.underlying267;have l:=Tryz.underlying264;have a:=Tryz.isAgg264;have A:=Tryz.sizeOf264;have y:=Tryz.zeroValue264;have s:=run_underlying Tryz.underlying264;have D:=Tryz.underlying4;have C:=Tryz.isAgg4;have H:=Tryz.sizeOf4;have G:=Tryz.zeroValue4;have E:=run_underlying Tryz.underlying4;have⟨j,h,_⟩:=Option.map_eq_some_iff.1 (show(Tryz.prog.info? 267).map (·.size)=some 2 by kernel_rfl);go_enter Tryz.func192,Tryz.ntmps192;go_wp2;rw[Lib.run_neq_ptr_same w _ Tryz.underlying264 h];go_wp2
 go_end0
 simp
theorem AQJ(b:Nat)(w:World)(h0:w.cell? ⟨b,0,none⟩=some (.pointer none))(h:w.shape? b=some (267,2))(B:w.frozen? ⟨b,0,none⟩=false):
 Calls Tryz.prog 192 #[.pointer (some ⟨b,0,none⟩)] w λe w'=>e=.returned (.tuple #[])/\w'=w.setCell ⟨b,0,none⟩ (.pointer (some ⟨b,0,none⟩)):=by
 have⟨j,l,a⟩:=Option.map_eq_some_iff.1 (show(Tryz.prog.info? 267).map (·.size)=some 2 by kernel_rfl);have m:Tryz.prog.follows .mixedOrders=true:=oe;have D:=Tryz.underlying267;have A:=Tryz.isAgg267;have K:=Tryz.sizeOf267;have I:=Tryz.zeroValue267;have G:=run_underlying Tryz.underlying267;have C:=Tryz.underlying264;have y:=Tryz.isAgg264;have J:=Tryz.sizeOf264;have H:=Tryz.zeroValue264;have E:=run_underlying Tryz.underlying264;have M:=Tryz.underlying4;have L:=Tryz.isAgg4;have Q:=Tryz.sizeOf4;have O:=Tryz.zeroValue4;have N:=run_underlying Tryz.underlying4;have p:=Tryz.underlying418;have d:=Tryz.isAgg418;have z:=Tryz.sizeOf418;have x:=Tryz.zeroValue418;have s:=run_underlying Tryz.underlying418;go_enter Tryz.func192,Tryz.ntmps192;go_wp2;rw[Lib.run_to_unsafe w ⟨b,0,none⟩ Tryz.underlying264 Tryz.underlying418 l (by rw[a];decide) h (Nat.zero_lt_succ 1)];simp only[Result.andThen];rw[Oper.upon_value];go_wp2;rw[run_callFunc_extern Tryz.func267 oe oe oe (e:=Extern.AbiNoEscape.same) oe];rw[Lib.run_noEscape];simp only[Result.andThen];rw[Oper.upon_value];go_wp2;rw[Lib.run_from_unsafe w ⟨b,0,none⟩ Tryz.underlying418 Tryz.underlying264 l h oe];simp only[Result.andThen];rw[Oper.upon_value];go_wp2
 go_end0
 simp
theorem A8Y{p q:Value}{fz:Nat×Nat}(a:w.heap[b]?=some (.cells cells el fz))(h:cells.toList=[p,q]):
 w.cell? ⟨b,0,none⟩=some p/\w.cell? ⟨b,1,none⟩=some q:=by
 have:cells= #[p,q]:=by apply C6;exact h
 grind[World.cell?]
theorem AQK(b g cap:Nat)(l:List UInt8)(w:World)(a:Array Value)(fz:Nat×Nat)(N:w.cell? ⟨b,1,none⟩=some (.slice (some ⟨g,0,none⟩) l.length cap))(h0:l≠[])
 (y:w.heap[g]?=some (.cells a 5 fz))(m:l.length<=cap)(s:a.size=cap)(p:l.length<=281474976710656)(B:∀(j:Nat) x,l[j]?=some x->a[j]?=some (.int .u8 x.toNat)):
 Calls Tryz.prog 129 #[.pointer (some ⟨b,0,none⟩)] w λe w'=>e=.returned (.string ⟨l.toArray⟩)/\w'=w.drew.freeze ⟨g,0,none⟩ l.length:=by
 have Q:l.length≠0:=by simpa using h0
 have c1:w.drew.cell? ⟨b,1,none⟩=some (.slice (some ⟨g,0,none⟩) l.length cap):=N
 have K:(Builtin.unsafeSliceData_ #[265] 349 #[.slice (some ⟨g,0,none⟩) l.length cap]).run Tryz.prog w.drew=.ok (.pointer (some ⟨g,0,none⟩)) w.drew:=
  Lib.run_unsafeSliceData_row _ _ _ _ _ _ oa
 have L:(Builtin.unsafeString_ #[349,3] 9 #[.pointer (some ⟨g,0,none⟩),.int .i64 l.length]).run Tryz.prog w.drew=.ok (.string ⟨l.toArray⟩) (w.drew.freeze ⟨g,0,none⟩ l.length):=by
  refine Lib.run_unsafeString_row w.drew 349 3 9 5 Tryz.underlying349 oe g a.size (by have d:w.drew.heap[g]?=some (.cells a 5 fz):=y;simp[World.shape?,d]) l h0 oa oa ?_;intro j x O;have d:w.drew.heap[g]?=some (.cells a 5 fz):=y;have M:(⟨g,0,none⟩:Addr).add j=⟨g,j,none⟩:=by simp[Addr.add];exact λh=>h.symm
  rw[M];simp only[World.cell?,d,B j x O];rfl
 clear B s y m p h0;have z:Tryz.prog.follows .mixedOrders=true:=oe;have U:=Tryz.underlying267;have J:=Tryz.isAgg267;have h5:=Tryz.sizeOf267;have h2:=Tryz.zeroValue267;have X:=run_underlying Tryz.underlying267;have T:=Tryz.underlying264;have I:=Tryz.isAgg264;have h4:=Tryz.sizeOf264;have Z:=Tryz.zeroValue264;have W:=run_underlying Tryz.underlying264;have R:=Tryz.underlying265;have H:=Tryz.isAgg265;have h3:=Tryz.sizeOf265;have Y:=Tryz.zeroValue265;have V:=run_underlying Tryz.underlying265;have C:=Tryz.underlying349;have A:=Tryz.isAgg349;have G:=Tryz.sizeOf349;have E:=Tryz.zeroValue349;have D:=run_underlying Tryz.underlying349;have t3:=Tryz.underlying3;have a3:=Tryz.isAgg3;have z3:=Tryz.sizeOf3;have v3:=Tryz.zeroValue3;have u3:=run_underlying Tryz.underlying3;have t9:=Tryz.underlying9;have a9:=Tryz.isAgg9;have z9:=Tryz.sizeOf9;have v9:=Tryz.zeroValue9;have u9:=run_underlying Tryz.underlying9;have t5:=Tryz.underlying5;have a5:=Tryz.isAgg5;have z5:=Tryz.sizeOf5;have v5:=Tryz.zeroValue5;have u5:=run_underlying Tryz.underlying5;go_enter Tryz.func129,Tryz.ntmps129;go_wp2
 go_region_o
 all_goals (go_wp2;go_ret;simp)
theorem AQL(b g:Nat)(w:World)(a:Array Value)(fz:Nat×Nat)(h:w.cell? ⟨b,1,none⟩=some (.slice (some ⟨g,0,none⟩) 0 0))(H:w.heap[g]?=some (.cells a 5 fz)):
 Calls Tryz.prog 129 #[.pointer (some ⟨b,0,none⟩)] w λe w'=>e=.returned (.string ⟨#[]⟩)/\Below w.heap.size w w':=by
 have G:∀(W:World) (q:Option Addr),(Builtin.unsafeString_ #[349,3] 9 #[.pointer q,.int .i64 0]).run Tryz.prog W=.ok (.string .empty) W:=λW q=>Lib.run_unsafeString_none W _ _ _ q;have j:=cE h;have c1:w.drew.cell? ⟨b,1,none⟩=some (.slice (some ⟨g,0,none⟩) 0 0):=h
 have E:(Builtin.unsafeSliceData_ #[265] 349 #[.slice (some ⟨g,0,none⟩) 0 0]).run Tryz.prog w.drew=.ok (.pointer (some ⟨w.drew.heap.size,0,none⟩)) (w.drew.alloc (.view ⟨g,0,none⟩ 5)):=
  Lib.run_unsafeSliceData_zero w.drew _ _ 5 Tryz.underlying349 ⟨g,0,none⟩ 0 (5,a.size) (by have d:w.drew.heap[g]?=some (.cells a 5 fz):=H;simp[World.shape?,d])
 have p:Below w.heap.size w (w.drew.alloc (.view ⟨g,0,none⟩ 5)):=(Below.drew (Below.refl _ w)).alloc (AD _) _;have D:(w.drew.alloc (.view ⟨g,0,none⟩ 5)).cell? ⟨b,1,none⟩=some (.slice (some ⟨g,0,none⟩) 0 0):=(p.cell j).trans h;have c3:(w.alloc (.view ⟨g,0,none⟩ 5)).drew.cell? ⟨b,1,none⟩=some (.slice (some ⟨g,0,none⟩) 0 0):=D;have m:Tryz.prog.follows .mixedOrders=true:=oe;have K:=Tryz.underlying267;have C:=Tryz.isAgg267;have V:=Tryz.sizeOf267;have R:=Tryz.zeroValue267;have N:=run_underlying Tryz.underlying267;have J:=Tryz.underlying264;have B:=Tryz.isAgg264;have U:=Tryz.sizeOf264;have Q:=Tryz.zeroValue264;have M:=run_underlying Tryz.underlying264;have I:=Tryz.underlying265;have A:=Tryz.isAgg265;have T:=Tryz.sizeOf265;have O:=Tryz.zeroValue265;have L:=run_underlying Tryz.underlying265;have s:=Tryz.underlying349;have l:=Tryz.isAgg349;have z:=Tryz.sizeOf349;have y:=Tryz.zeroValue349;have x:=run_underlying Tryz.underlying349;have t3:=Tryz.underlying3;have X:=Tryz.isAgg3;have z3:=Tryz.sizeOf3;have v3:=Tryz.zeroValue3;have u3:=run_underlying Tryz.underlying3;have t9:=Tryz.underlying9;have Z:=Tryz.isAgg9;have z9:=Tryz.sizeOf9;have v9:=Tryz.zeroValue9;have u9:=run_underlying Tryz.underlying9;have t5:=Tryz.underlying5;have Y:=Tryz.isAgg5;have z5:=Tryz.sizeOf5;have v5:=Tryz.zeroValue5;have u5:=run_underlying Tryz.underlying5;go_enter Tryz.func129,Tryz.ntmps129;go_wp2
 go_region_o
 all_goals (go_wp2;go_ret;exact⟨rfl,p⟩)
theorem After.only(a:HQ w I){bs:List Nat}(s:b∈bs)(z:∀o,¬I.cell b o)(p:¬I.obj b)(l:∀k,k≠b->w'.heap[k]?=w.heap[k]?)(j:w'.heap.size=w.heap.size)
 (d:w'.os=w.os)(y:w'.tape=w.tape)(x:w'.output=w.output):After (·∈bs) w I w' I:=by
 have m:Ext w I w' I:=⟨λk o h=>⟨h,by grind[World.cell?]⟩,λk h=>⟨h,l k (λe=>p (e▸h))⟩⟩;exact⟨m,λk _ hk=>l k (λe=>hk (e▸s)),Nat.le_of_eq j.symm,λ_ _ h=>.inl h,λ_ h=>.inl h,λk o h=>j▸a.1 k o h,λk h=>j▸a.2.1 k h,d,y,x,a.2.2.ext m⟩
theorem AQM{o:Nat}{v:Value}{k:Nat}(h:k≠b):(w.setCell ⟨b,o,none⟩ v).heap[k]?=w.heap[k]?:=Below.heap_setCell w ⟨b,o,none⟩ v k h
def AQN:FSpec:=⟨[.bld 5 false],[],fP,false⟩
theorem A8Z:FK Go.Proofs.Tryz.prog 192/\FunOK Go.Proofs.Tryz.prog 192 AQN:=by
 refine⟨entered Tryz.func192 oe oe,λw I v J bs L s m r T=>?_⟩;cases T;obtain⟨v1,rfl,b,cells,el,p,q,d,N,rfl,h1,a,x,R,A,B,y⟩:=s;obtain rfl:=AC.1 N;obtain rfl:=A8X a;have⟨c0,c1⟩:=A8Y h1 x;have j:=AV.1 m;rcases R with rfl|rfl
 .have s:w.shape? b=some (267,2):=by
   have:cells.size=2:=by rw[<-BG,x];rfl
   simp[World.shape?,h1,this]
  refine(AQJ b w c0 s (by simp[World.frozen?,h1])).mono λe w' ⟨E,l⟩=>?_;have K:∀k,k≠b->w'.heap[k]?=w.heap[k]?:=λk hk=>by rw[l];exact AQM hk
  have U:w'.heap.size=w.heap.size:=by rw[l];simp[World.setCell]
  have D:w'.heap[b]?=some (.cells #[.pointer (some ⟨b,0,none⟩),q] 267 (0,0)):=by
   have Q:cells= #[.pointer none,q]:=by apply C6;exact x
   subst Q;rw[l];simp only[World.setCell,Array.getElem?_modify,h1];simp
  refine⟨_,[],I,b::d,E,rfl,rfl,After.only L AE A B K U (by rw[l];rfl) (by rw[l];rfl) (by rw[l];rfl),?_,m,λb C=>.inl C,λh=>oq⟩;refine⟨_,rfl,b,_,267,_,q,d,rfl,rfl,D,a,rfl,.inr rfl,A,B,?_⟩;rcases y with y|⟨g,z,O,k1,M,V,⟨fz,W,H⟩,X,k6,Y,Z⟩
  .exact .inl y
  .have G:g≠b:=by rw[M]at j;intro e;exact j.1 oc
   refine .inr ⟨g,z,O,k1,M,V,⟨fz,(K g G).trans W,H⟩,X,?_,Y,Z⟩;assumption
 .refine(AQI b w c0).mono λe w' ⟨E,l⟩=>?_;subst l;refine⟨_,[],I,b::d,E,rfl,rfl,After.refl L,?_,m,λb C=>.inl C,λh=>oq⟩;exact⟨_,rfl,b,cells,267,_,q,d,rfl,rfl,h1,a,x,.inr rfl,A,B,y⟩
theorem AQO{k:Nat}(h:k≠b):(w.freeze ⟨b,0,none⟩ n).heap[k]?=w.heap[k]?:=by unfold World.freeze;grind
theorem AQP{a:Addr}:(w.freeze a n).heap.size=w.heap.size:=by grind[World.freeze]
theorem AQQ{a:Addr}:(w.freeze a n).os=w.os/\(w.freeze a n).tape=w.tape/\(w.freeze a n).output=w.output:=by unfold World.freeze;grind
theorem AQR{xs:List Int}(h:∀x∈xs,FZ .u8 x):xs=FY (IR xs):=by
 unfold FY IR;rw[List.map_map];conv=>lhs;rw[<-List.map_id xs]
 refine List.map_congr_left λx a=>?_;have h1:0<=x/\x<=255:=h x a;grind[UInt8.ofNat,UInt8.toNat_ofNat']
def AQS:FSpec:=⟨[.bld 5 true],[.val .str],PY,false⟩
theorem UH:FK Go.Proofs.Tryz.prog 129/\FunOK Go.Proofs.Tryz.prog 129 AQS:=by
 refine⟨entered Tryz.func129 oe oe,λw I v U bs Y M L r hr=>?_⟩;cases hr;obtain⟨v1,rfl,b,cells,el,p,q,B,C,rfl,h1,E,V,hp,h4,h5,h6⟩:=M;obtain rfl:=AC.1 C;obtain rfl:=A8X E;have⟨c0,c1⟩:=A8Y h1 V;have Z:=AV.1 L;have z:cells= #[p,q]:=by apply C6;exact V
 subst z
 have a:∀(w':World) (e:Ending),(show List Int from v)=[]->e=.returned (.string ⟨#[]⟩)->Below w.heap.size w w'->∃rv T I' m,e=.returned rv/\T.length=1/\MD T rv/\After (·∈b::B) w I w' I'/\
  ShL Tryz.prog w' I' [.val .str] (IR v) (T++[]) m/\m.Nodup/\(∀k∈m,k∈b::B\/w.heap.size<=k)/\(false=true->w.drawn<=w'.drawn):=by
  intro w' e N A y;refine⟨_,[_],imNew I noX,[],A,rfl,rfl,(After.below Y y noX_ok).mono (λk hk=>by cases hk),?_,.nil,(λk hk=>by cases hk),λh=>oq⟩;have:IR v=[]:=by have N:v=([]:List Int):=N;rw[N];rfl
  rw[this];exact NH (OE (x:=[]) oi)
 rcases h6 with⟨rfl,k1,k2⟩|⟨g,s,D,rfl,k2,J,⟨fz,k4,h3⟩,R,k6,k7,k8⟩
 .exact(Any.Builder_String_nil vn tz w.heap.size b p w h1).mono λe w' ⟨A,y⟩=>a w' e k1 A y
 .obtain⟨d,Q⟩:∃d:List Int,d=v:=⟨v,rfl⟩;subst Q;have J:IS d.length s:=J;have R:D.size=s:=by rw[R];exact CS _
  by_cases h0:d=[]
  .subst h0;by_cases W:s=0
   .subst W;exact(AQL b g w D fz c1 k4).mono λe w' ⟨A,y⟩=>a w' e rfl A y
   .exact(Any.Builder_String_room vn tz w.heap.size b g s p w W h1).mono λe w' ⟨A,y⟩=>a w' e rfl A y
  .have G:∀(j:Nat) x,d[j]?=some x->D[j]?=some (.int .u8 x)/\FZ .u8 x:=by intro j x O;have⟨C,e2⟩:=k6 j x O;refine⟨?_,e2⟩;have C:((D.toList.drop (j*1)).take 1)=[.int .u8 x]:=C;have:=congrArg (λl=>l[0]?) C;simpa using this
   have hk:∀x∈d,FZ .u8 x:=λx O=>let ⟨j,X⟩:=BN O;(G j x X).2
   have y:d=FY (IR d):=AQR hk;have K:(IR d).length=d.length:=by simp[IR]
   refine(AQK b g s (IR d) w D fz oc (λe=>h0 (by rw[y,e];rfl)) k4 (by rw[K];exact J.1) R (by rw[K];exact J.2) (λj x X=>?_)).mono λe w' ⟨A,H⟩=>?_
   .grind[FY]
   .obtain⟨o1,o2,o3⟩:=AQQ (w:=w.drew) (a:=⟨g,0,none⟩) (n:=(IR d).length);refine⟨_,[_],I,[],A,rfl,rfl,After.only Y (b:=g) (by rw[k2];simp) k7 k8 (λk hk=>by rw[H];exact AQO hk) (by rw[H];exact AQP) (by rw[H];exact o1) (by rw[H];exact o2) (by rw[H];exact o3),?_,.nil,(λk hk=>by cases hk),λh=>oq⟩;exact NH (OE (by rw[K];exact J.2))
variable{α:Type}{cs cells:Array Value}{el b:Nat}{fz:Nat×Nat}{os:Array Go.Obj}{w:World}{xs:List Int}
variable [Pins]
open Go.Sort Go.Shelf
theorem AQT{P:Program}{g:Nat}(h:FK P g):∀a w,(callFunc g a).run P w=.ok (.enter g a) w:=by obtain⟨fn,c,h1,b,d⟩:=h;simp_all[callFunc]
theorem A8_ [Inhabited α](enc:α->Value)(w:World)(b off:Nat)(d:Array α)(k:Nat)(h:k≠b):(putRow enc w b off d).heap[k]?=w.heap[k]?:=by simp only[putRow,mapBlock,Array.getElem?_modify];grind
theorem A8a [Inhabited α](enc:α->Value)(w:World)(b off:Nat)(d:Array α){el:TypeId}(h:w.heap[b]?=some (.cells cs el fz)):
 (putRow enc w b off d).heap[b]?=some (.cells (putCells enc off d cs) el fz):=by
 simp_all[putRow,mapBlock,Array.getElem?_modify,onCells]
theorem pO(w:World)(os:Array Go.Obj)(k:Nat)(h:k<w.heap.size):(grow w os).heap[k]?=w.heap[k]?:=by grind[grow,Array.getElem?_append_left]
section
variable{P:Program}{w:World}{I:Im}
theorem A8b [Inhabited α]{enc:α->List Value}{k:Nat}{n:Nat}{D:Array α}{el:TypeId}(d:w.heap[b]?=some (.cells cs el fz)):
 (sortWorldK enc k w b 0 n D os).heap[b]?=some (.cells (putCells id 0 (flatK enc k D) cs) el fz)/\(∀j,j≠b->j<w.heap.size->(sortWorldK enc k w b 0 n D os).heap[j]?=w.heap[j]?)/\
 w.heap.size<=(sortWorldK enc k w b 0 n D os).heap.size/\(sortWorldK enc k w b 0 n D os).drawn=w.drawn+n:=by
 have a:b<w.heap.size:=(B1.1 d).1;unfold sortWorldK putRowK;refine⟨?_,λj e h=>?_,?_,rfl⟩
 .rw[pO _ _ _ (by simpa using a)];exact A8a id _ b 0 _ d
 .rw[pO _ _ _ (by simpa using h)];exact A8_ id _ b 0 _ j e
 .simp
theorem A8c [Inhabited α]{enc:α->List Value}{k:Nat}{n:Nat}{D:Array α}{el:TypeId}(x:w.heap[b]?=some (.cells cs el fz))
 (a:HQ w I)(p:∀o,¬I.cell b o)(s:¬I.obj b):Ext w I (sortWorldK enc k w b 0 n D os) I/\HQ (sortWorldK enc k w b 0 n D os) I:=by
 have⟨h1,d,l,y⟩:=A8b (enc:=enc) (k:=k) (n:=n) (D:=D) (os:=os) x;have m:Ext w I (sortWorldK enc k w b 0 n D os) I:=⟨λj o h=>⟨h,by simp only[World.cell?,d j (λe=>p o (e▸h)) (a.1 j o h)]⟩,λj h=>⟨h,d j (λe=>s (e▸h)) (a.2.1 j h)⟩⟩;exact⟨m,λj o h=>AO (a.1 j o h) l,λj h=>AO (a.2.1 j h) l,a.2.2.ext m⟩
theorem A0g{ρ:Ren}{f:Nat}{p:Ty}(L:SlLaysF0.n6 P ρ)(hf:ρ.f 6=f)(aE:∀w,(isAgg (ρ.t 24)).run P w=.ok true w)(zE:∀w,(Go.sizeOf (ρ.t 24)).run P w=.ok p.sz w)(hp:0<p.sz):
 FunOK P f ⟨[.io el (.agg p),.hof true (.prod (.agg p) (.agg p)) (.int .i64)],[],λv=>NW v.1 v.2,true⟩:=by
 subst hf;intro w I v z2 bs hm y5 h6 r C;obtain⟨v1,vs,b1,b2,rfl,rfl,h1,v2,rfl,rfl,g,lb,y7,h3,hof⟩:=y5;obtain rfl:=AC.1 y7;obtain⟨xs,F⟩:List p.T×(p.T×p.T->Option Int):=v;have C:NW xs F=some r:=C
 have H:∀(a:Option Addr) (s:Nat),v1=.slice a 0 s->xs=[]->
  Calls P (ρ.f 6) #[v1,.func (.func g) #[] lb] w λe w'=>∃rv vs I' M,e=.returned rv/\vs.length=0/\MD vs rv/\After (·∈b1++[]) w I w' I'/\
   ShL P w' I' [.io el (.agg p)] r (vs++[v1]) M/\M.Nodup/\(∀b∈M,b∈b1++[]\/w.heap.size<=b)/\(true=true->w.drawn<=w'.drawn):=by
  intro a s hv y8;subst y8;have C:r=([]:List p.T):=by have:NW ([]:List p.T) F=some []:=rfl;rw[this]at C;cases C;rfl
  subst hv;refine(AnyF.slices_SortFunc_none L a s _ w).mono λe w' ⟨he,R⟩=>?_;subst R;rw[CU]at h6 ⊢;refine⟨_,[],I,b1,he,rfl,rfl,After.refl hm,⟨_,rfl,?_⟩,h6,λb N=>.inl N,λ_=>AD _⟩;rw[C];exact h1
 rcases h1 with⟨T,e2,rfl⟩|⟨b,s,cells,T,rfl,hl,⟨fz,N,a0⟩,O,h8,hI,_,hO⟩
 .exact H none 0 (AC.1 T) e2
 .have T:v1=.slice (some ⟨b,0,none⟩) xs.length s:=AC.1 T;by_cases h0:0<xs.length
  .subst T;unfold NW at C;rw[dif_pos h0]at C;have⟨⟨y1,y2,y3,y4⟩,C⟩:=OR C;have C:(L3 xs F h0).toList.map xs.get=r:=A2 C
   letI:Inhabited (Fin xs.length):=⟨⟨0,h0⟩⟩
   let k:=p.sz
   have O:cells.size=s*k:=O;have z3:xs.length<=s:=hl.1;have B:∀i,i<xs.length->i*k+k<=cells.size:=by intro i hi;have:(i+1)*k<=s*k:=AT k oa;rw[O];rw[CP]at this;omega
   let l:Fin xs.length->List Value:=λi=>(cells.toList.drop (i.val*k)).take k
   have D:∀i:Fin xs.length,Rel w I (.agg p) (xs.get i) (l i):=λi=>h8 i.val (xs.get i) (A1 i.isLt);have hk:∀x,(l x).length=k:=by intro x;have:=B x.val x.isLt;simp only[l,BQ,C9,BG];omega
   have h7:∀x,∀v∈l x,v.oneCell'=true:=λx=>(D x).oneCell;have h4:∀(i:Fin xs.length) (c:Nat),c<k->(l i)[c]! =cells[i.val*k+c]!:=by intro i c U;have h2:=B i.val i.isLt;have Q:i.val*k+c<cells.size:=oa;rw[getElem!_pos (l i) c oc,getElem!_pos cells _ Q];simp[l]
   have X:SWO (ltOf (NV xs F)):=⟨λx=>y2 x,λx y z=>y3 x y z,λx y z=>y4 x y z⟩;have z4:CmpLays P g lb l k (NV xs F) b 0 xs.length w:=by
    intro m os dk _ x y;have⟨V,y0⟩:=A8c (enc:=l) (k:=k) (n:=m) (D:=dk) (os:=os) N hm (hI rfl) hO;have⟨c,U⟩:=Option.isSome_iff_exists.1 (y1 x y)
    have:=hof _ I V y0 (xs.get x,xs.get y) [.agg (l x).toArray,.agg (l y).toArray]
     ⟨_,_,rfl,⟨l x,rfl,(D x).ext V⟩,_,rfl,l y,rfl,(D y).ext V⟩ c U
    refine this.mono λe z1 ⟨rv,I'',q1,q2,⟨c',q3,q4,_⟩,q5⟩=>?_;have q3:c'=[rv]:=q3;rw[q3]at q4;have q4:rv=.int .i64 c:=AC.1 q4;refine⟨?_,?_⟩
    .grind[NV]
    .obtain⟨⟨d,y9⟩,R⟩:=regrown_of_below (w:=sortWorldK l k w b 0 m dk os) (w':=z1) ⟨q2.os,q2.tape,q2.output,q2.size,λj A=>q2.heap j A λh=>h⟩;have hd:=q5 rfl;refine⟨d-(sortWorldK l k w b 0 m dk os).drawn,y9,?_⟩;grind[grow,redrawn,World.drewN]
   have J:(Array.ofFn (id:Fin xs.length->Fin xs.length)).size=xs.length:=oh;have x0:∀(j:Nat) (A:j<xs.length),(Array.ofFn (id:Fin xs.length->Fin xs.length))[j]! =⟨j,A⟩:=by intro j A;rw[getElem!_pos _ j (by simpa using A)];simp
   have x3:∀j,j<xs.length*k->j / k<xs.length/\j % k<k/\j / k*k+j % k=j:=λj A=>⟨(Nat.div_lt_iff_lt_mul hp).2 A,Nat.mod_lt _ hp,Nat.div_add_mod' j k⟩
   have hH:HoldsK l k w b 0 (Array.ofFn (id:Fin xs.length->Fin xs.length)):=by
    intro j A;rw[size_flatK,J]at A;have⟨d1,d2,d3⟩:=x3 j A;rw[get_flatK _ _ _ _ oc,x0 _ d1,h4 _ _ d2,d3];have a5:j<cells.size:=by have:=B _ d1;have:j<j / k*k+k:=oa;omega
    refine⟨?_,?_⟩
    .simp_all[World.cell?,BO,id,getElem!_pos]
    .simp only[World.frozen?,N,BO];grind
   have Y:b<w.heap.size:=(B1.1 N).1;have y6:(Array.ofFn (id:Fin xs.length->Fin xs.length)).size<4611686018427387904:=by rw[J];have:xs.length<=281474976710656:=hl.2;omega
   have G:=AnyQ.slices_SortFunc_eq L k aE zE l hk h7 (NV xs F) X g lb b 0 s (Array.ofFn id) w (AQT h3) oc hH Y y6;have E:=pdq_sorts (ltOf (NV xs F)) X (Array.ofFn (id:Fin xs.length->Fin xs.length)) 0 xs.length (Lib.bitLen xs.length) true true (AS _) oa (.inl rfl);rw[J]at G;have hD:pdq (ltOf (NV xs F)) (Array.ofFn (id:Fin xs.length->Fin xs.length)) 0 xs.length (Lib.bitLen xs.length) true true=L3 xs F h0:=(A3Z xs F h0).symm;rw[hD]at G E;have W:(L3 xs F h0).size=xs.length:=by have:=E.1.1;rw[J]at this;exact this
   refine G.mono λe w' ⟨he,n,os,R⟩=>?_;have⟨a1,a2,a3,a4⟩:=A8b (enc:=l) (k:=k) (n:=n) (D:=L3 xs F h0) (os:=os) N;have⟨x1,x2⟩:=A8c (enc:=l) (k:=k) (n:=n) (D:=L3 xs F h0) (os:=os) N hm (hI rfl) hO;rw[<-R]at a1 a2 a3 a4 x1 x2;have K:(show List p.T from r).length=xs.length:=by
    have:((L3 xs F h0).toList.map xs.get).length=xs.length:=by rw[B2,BG,W]
    rw[C]at this;exact this
   have a6:(putCells id 0 (flatK l k (L3 xs F h0)) cells).size=cells.size:=by simp[putCells]
   refine⟨_,[],I,[b],he,rfl,rfl,⟨x1,λj A hn=>a2 j (λe=>hn (by rw[e];simp)) A,a3,λ_ _ h=>.inl h,λ_ h=>.inl h,x2.1,x2.2.1,by rw[R];rfl,by rw[R];rfl,by rw[R];rfl,x2.2.2⟩,?_,oh,λj A=>.inl (by simpa using A),λ_=>by rw[a4];omega⟩;refine⟨_,rfl,.inr ⟨b,s,_,?_,rfl,?_,⟨fz,a1,oc⟩,oa,?_,hI,(λh=>oq),hO⟩⟩
   .exact congrArg (λn=>[Value.slice (some ⟨b,0,none⟩) n s]) K.symm
   .have:IS xs.length s:=hl;rw[<-K]at this;exact this
   .intro i y hy;have hy:((L3 xs F h0).toList.map xs.get)[i]?=some y:=by rw[C];exact hy
    rw[AX]at hy;cases hi:(L3 xs F h0).toList[i]? with
    |none=>grind
    |some q=>
     rw[hi]at hy;cases hy;have x5:i<xs.length:=by have:=(A3.1 hi).1;rw[BG,W]at this;exact this
     have h9:(L3 xs F h0)[i]! =q:=by have:=(A3.1 hi).2;rw[getElem!_pos _ i oa];simpa using this
     have x4:((putCells id 0 (flatK l k (L3 xs F h0)) cells).toList.drop (i*k)).take k=l q:=by
      apply BR;intro c;by_cases U:c<k
      .have Q:i*k+c<cells.size:=by have:=B i x5;omega
       have z9:i*k+c<xs.length*k:=by have:(i+1)*k<=xs.length*k:=AT k oa;rw[CP]at this;omega
       have Z:(i*k+c) / k=i:=by rw[CY,Nat.mul_add_div hp,Nat.div_eq_of_lt U];omega
       have h5:(i*k+c) % k=c:=by rw[CY,Nat.mul_add_mod,Nat.mod_eq_of_lt U]
       rw[B3,if_pos U,B9,B4];simp only[putCells,Array.getElem?_mapIdx];rw[AU Q];simp only[BH];rw[if_pos ⟨AS _,by simp_all⟩,Nat.sub_zero,get_flatK _ _ _ _ oc,Z,h5,h9];grind
      .rw[CK ot,CK (by rw[hk];omega)]
     rw[show(Ty.agg p).sz=k from rfl,x4];exact(D q).ext x1
  .have V:xs=[]:=AF oa;exact H (some ⟨b,0,none⟩) s (by rw[T,V];rfl) V
end
structure IntAt(w:World)(I:Im)(el:Nat)(xs:List Int)(b o:Nat)(cells:Array Value):Prop where
 row:RowAt w b cells el
 sz:o+xs.length<=cells.size
 rows:∀(j:Nat) (x:Int),xs[j]?=some x->cells[o+j]?=some (.int .i64 x)/\FZ .i64 x
 noC:∀o,¬I.cell b o
 noO:¬I.obj b
theorem pP{I:Im}{cs:List Value}:RowsOK w I (.int .i64) xs cs<->∀(j:Nat) (x:Int),xs[j]?=some x->cs[j]?=some (.int .i64 x)/\FZ .i64 x:=by
 constructor
 .intro h j x a;have⟨h1,b⟩:=h j x a;have h1:(cs.drop (j*1)).take 1=[.int .i64 x]:=h1;rw[CS]at h1;have d:=congrArg (λl:List Value=>l[0]?) h1;grind
 .intro h j x a;have⟨h1,b⟩:=h j x a;refine⟨?_,b⟩;show(cs.drop (j*1)).take 1=[.int .i64 x];rw[CS];apply BR;grind
theorem IntAt.holds{I:Im}{o:Nat}(h:IntAt w I el xs b o cells):Holds (Value.int .i64) w b o xs.toArray:=by
 intro j a;have a:j<xs.length:=by simpa using a
 have⟨h1,_⟩:=h.rows j _ (A1 a);have e:o+j<cells.size:=(B1.1 h1).1;obtain⟨fz,l,d⟩:=h.row;grind[World.cell?,World.frozen?]
theorem IntAt.put{I:Im}{o:Nat}(h:IntAt w I el xs b o cells)(m:HQ w I)(ys s:List Int)(R:ys.length=xs.length)
 (J:∀(i:Nat) (z:Int),s[i]?=some z->ys[i]?=some z)(M:∀y∈s,FZ .i64 y){w':World}{n:Nat}(a:w'=grow (putRow (Value.int .i64) (Sort.ahead w n) b o ys.toArray) os):
 After (·∈[b]) w I w' I/\IntAt w' I el s b o (putCells (Value.int .i64) o ys.toArray cells)/\w.drawn<=w'.drawn:=by
 obtain⟨fz,d,N⟩:=h.row;have E:b<w.heap.size:=(B1.1 d).1;have L:w'.heap[b]?=some (.cells (putCells (Value.int .i64) o ys.toArray cells) el fz):=by rw[a,pO _ _ _ (by simpa using E)];exact A8a (Value.int .i64) _ b o _ d
 have x:∀j,j≠b->j<w.heap.size->w'.heap[j]?=w.heap[j]?:=λj C D=>by rw[a,pO _ _ _ (by simpa using D)];exact A8_ (Value.int .i64) _ b o _ j C
 have A:w.heap.size<=w'.heap.size:=by rw[a];simp
 have G:(putCells (Value.int .i64) o ys.toArray cells).size=cells.size:=by simp[putCells]
 have K:Ext w I w' I:=⟨λj o l=>⟨l,by simp only[World.cell?,x j (λe=>h.noC o (e▸l)) (m.1 j o l)]⟩,λj p=>⟨p,x j (λe=>h.noO (e▸p)) (m.2.1 j p)⟩⟩;have U:s.length<=xs.length:=by rw[<-R];apply BI;intro H;have h1:=J ys.length (s[ys.length]'(oa)) (A1 _);rw[CK (AD _)]at h1;cases h1
 have T:=h.sz
 refine ⟨⟨K,λj C H=>x j (λe=>H (by rw [e]; simp)) C,A,λ_ _ h=>.inl h,λ_ h=>.inl h,λj o l=>AO (m.1 j o l) A,λj p=>AO (m.2.1 j p) A,by rw [a]; rfl,by rw [a]; rfl,by rw [a]; rfl,m.2.2.ext K⟩,
  ⟨⟨fz,L,oc⟩,by rw[G];omega,?_,h.noC,h.noO⟩,by rw[a];exact Nat.le_add_right _ _⟩
 intro i z hi;have B:=J i z hi;have Q:i<ys.length:=(A3.1 B).1;have O:o+i<cells.size:=oa;refine⟨?_,M z (AH hi)⟩;simp_all[getElem!_pos,A3,putCells,Array.getElem?_mapIdx,AU,BH,if_pos,Nat.add_sub_cancel_left]
theorem IntAt.all{I:Im}{o:Nat}(h:IntAt w I el xs b o cells):∀y∈xs,FZ .i64 y:=by intro y a;obtain⟨i,hi,rfl⟩:=List.getElem_of_mem a;exact(h.rows i _ (A1 hi)).2
def AQU:FSpec:=⟨[.io 3 (.int .i64)],[],slices_Sort_int,true⟩
theorem AQV:FK Go.Proofs.Tryz.prog 255/\FunOK Go.Proofs.Tryz.prog 255 AQU:=by
 refine⟨entered Tryz.func255 oe oe,λw I v H bs K G V r p=>?_⟩;obtain⟨a,rfl,R⟩:=G;have p:r=(show List Int from v).mergeSort λx y=>decide (x<=y):=(A2 p).symm;rcases R with⟨B,m,rfl⟩|⟨b,d,cells,B,rfl,h1,J,C,N,O,_,Q⟩
 .obtain rfl:a=.slice none 0 0:=AC.1 B;refine(tn none 0 w).mono λe X ⟨D,A⟩=>?_;subst A;have m:v=([]:List Int):=m;subst m;have:r=([]:List Int):=p.trans List.mergeSort_nil;subst this;exact⟨_,[],I,[],D,rfl,rfl,After.refl K,⟨_,rfl,.inl ⟨rfl,rfl,rfl⟩⟩,AW,λb T=>.inl T,λ_=>AD _⟩
 .obtain rfl:a=.slice (some ⟨b,0,none⟩) (show List Int from v).length d:=AC.1 B;have C:cells.size=d*1:=C;have E:IntAt w I 3 v b 0 cells:=⟨J,by rw[C,CS,BO];exact h1.1,λj x m=>by rw[BO];have:=pP.1 N j x m;grind,O rfl,Q⟩;have l:(show List Int from r).length=(show List Int from v).length:=by rw[p];exact List.length_mergeSort _
  refine(uj b 0 d v w E.holds J.lt (Nat.lt_of_le_of_lt h1.2 oi)).mono λe X ⟨D,n,os,A⟩=>?_;rw[<-p]at A;have⟨L,s,M⟩:=E.put K r r l (λi z h=>h) (λy Y=>E.all y (by grind[List.mergeSort_perm])) A;have W:(putCells (Value.int .i64) 0 (show List Int from r).toArray cells).size=cells.size:=by simp[putCells]
  refine⟨_,[],I,[b],D,rfl,rfl,L,⟨_,rfl,.inr ⟨b,d,_,?_,rfl,?_,s.row,oc,pP.2 λj x m=>?_,λ_=>s.noC,λe=>(by cases e),s.noO⟩⟩,oh,λj U=>.inl U,λ_=>M⟩
  .show [_]=[Value.slice (some ⟨b,0,none⟩) (show List Int from r).length d];rw[l]
  .exact l.symm▸h1
  .have:=s.rows j x m;grind
theorem AQW(xs:List Int):∀y∈Lib.compact xs,y∈xs:=by intro y h;unfold Lib.compact Lib.compactUpTo at h;grind
theorem AQX(xs:List Int):(Lib.compact xs).length<=xs.length:=by grind[Lib.compact,Lib.compactUpTo,List.length_map,Nat.le_trans,List.length_filter_le]
def AQY:FSpec:=⟨[.dp [3] (.int .i64)],[.dp [3] (.int .i64)],slices_Compact_int,true⟩
theorem A8d:FK Go.Proofs.Tryz.prog 160/\FunOK Go.Proofs.Tryz.prog 160 AQY:=by
 refine⟨entered Tryz.func160 oe oe,λw I v D bs G C T r s=>?_⟩;obtain⟨a,rfl,_,O⟩:=C;have s:r=Lib.compact (show List Int from v):=(A2 s).symm;rcases DV.inv1 (t:=.int .i64) O with⟨rfl,d,rfl⟩|⟨b,o,l,cells,rfl,rfl,h1,K,E,V,L,M,N⟩
 .refine(t4 none 0 w).mono λe U ⟨p,A⟩=>?_;subst A;have d:v=([]:List Int):=d;subst d;have:r=([]:List Int):=by rw[s];rfl
  subst this;exact⟨_,[_],I,[],p,rfl,rfl,After.refl G,⟨_,rfl,oh,⟨_,rfl,rfl,.inr (.inl ⟨oh,rfl,rfl,rfl⟩)⟩⟩,AW,λb Q=>.inl Q,λ_=>AD _⟩
 .have E:o+l*1<=cells.size:=E;have B:IntAt w I 3 v b o cells:=⟨K,AM (Nat.add_le_add_left h1.1 o) oa,λj x d=>by have:=pP.1 N j x d;grind,L,M⟩;refine(tw b o l v w B.holds (AM h1.2 oi) h1.1).mono λe U ⟨p,n,A⟩=>?_;have h:=AQX (show List Int from v);rw[<-s]at p A h
  have⟨H,m,J⟩:=B.put G ((show List Int from r)++List.replicate ((show List Int from v).length-(show List Int from r).length) 0) r oc
   (λi z hi=>oc) (λy W=>B.all y (by grind[AQW])) (n:=n) (os:=#[]) (A.trans (grow_empty _).symm)
  refine⟨_,[_],I,[b],p,rfl,rfl,H,⟨_,rfl,oh,DV.mk1 (t:=.int .i64) ⟨AM h h1.1,AM h h1.2⟩ m.row (by grind[putCells]) trivial m.noC m.noO (pP.2 λj x d=>?_)⟩,oh,λj R=>.inl R,λ_=>J⟩;rw[B9,B4];exact m.rows j x d
end Go.Ev.Pv
namespace Go.Proofs
open Tryz
open Go.Shelf
def vh:Go.Shelf.Ren:=⟨λ|6=>78|15=>134|14=>133|28=>204|29=>205|20=>196|21=>197|22=>198|23=>199|24=>200|25=>201|26=>202|27=>203|46=>275|47=>276|48=>277|49=>278|50=>279|57=>316|n=>n,λ|22=>118|24=>199|25=>202|3=>3|39=>281|0=>0|53=>364|55=>366|4=>4|46=>358|45=>357|50=>105|5=>5|9=>9|66=>424|70=>428|76=>471|77=>472|n=>n,λ|n=>n⟩
theorem wj:Go.Proofs.SlLaysF0.n6 Tryz.prog vh:=by constructor;exact oe;exact⟨f78.name,oi,fk func78⟩;exact⟨f133.name,oi,fk func133⟩;exact fk func134;exact⟨f196.name,oi,fk func196⟩;exact⟨f197.name,oi,fk func197⟩;exact⟨f198.name,oi,fk func198⟩;exact⟨f199.name,oi,fk func199⟩;exact⟨f200.name,oi,fk func200⟩;exact⟨f201.name,oi,fk func201⟩;exact⟨f202.name,oi,fk func202⟩;exact⟨f203.name,oi,fk func203⟩;exact fk func204;exact fk func205;exact⟨f275.name,oi,fk func275⟩;exact fk func276;exact fk func277;exact⟨f278.name,oi,fk func278⟩;exact⟨f279.name,oi,fk func279⟩;exact⟨f316.name,oi,fk func316⟩;repeat' first|(intros;kernel_rfl)|decide|constructor
def ve:Go.Shelf.Ren:=⟨λ|6=>106|15=>134|14=>175|28=>204|29=>205|20=>245|21=>246|22=>247|23=>248|24=>249|25=>250|26=>251|27=>252|46=>304|47=>276|48=>277|49=>305|50=>306|57=>340|n=>n,λ|22=>160|24=>163|25=>234|3=>3|39=>281|0=>0|53=>364|55=>366|4=>4|46=>358|45=>357|50=>105|5=>5|9=>9|66=>424|70=>428|76=>471|77=>472|n=>n,λ|n=>n⟩
theorem wg:Go.Proofs.SlLaysF0.n6 Tryz.prog ve:=by constructor;exact oe;exact⟨f106.name,oi,fk func106⟩;exact⟨f175.name,oi,fk func175⟩;exact fk func134;exact⟨f245.name,oi,fk func245⟩;exact⟨f246.name,oi,fk func246⟩;exact⟨f247.name,oi,fk func247⟩;exact⟨f248.name,oi,fk func248⟩;exact⟨f249.name,oi,fk func249⟩;exact⟨f250.name,oi,fk func250⟩;exact⟨f251.name,oi,fk func251⟩;exact⟨f252.name,oi,fk func252⟩;exact fk func204;exact fk func205;exact⟨f304.name,oi,fk func304⟩;exact fk func276;exact fk func277;exact⟨f305.name,oi,fk func305⟩;exact⟨f306.name,oi,fk func306⟩;exact⟨f340.name,oi,fk func340⟩;repeat' first|(intros;kernel_rfl)|decide|constructor
def vf:Go.Shelf.Ren:=⟨λ|6=>118|15=>134|14=>188|28=>204|29=>205|20=>256|21=>257|22=>258|23=>259|24=>260|25=>261|26=>262|27=>263|46=>308|47=>276|48=>277|49=>309|50=>310|57=>350|n=>n,λ|22=>171|24=>256|25=>258|3=>3|39=>281|0=>0|53=>364|55=>366|4=>4|46=>358|45=>357|50=>105|5=>5|9=>9|66=>424|70=>428|76=>471|77=>472|n=>n,λ|n=>n⟩
theorem wh:Go.Proofs.SlLaysF0.n6 Tryz.prog vf:=by constructor;exact oe;exact⟨f118.name,oi,fk func118⟩;exact⟨f188.name,oi,fk func188⟩;exact fk func134;exact⟨f256.name,oi,fk func256⟩;exact⟨f257.name,oi,fk func257⟩;exact⟨f258.name,oi,fk func258⟩;exact⟨f259.name,oi,fk func259⟩;exact⟨f260.name,oi,fk func260⟩;exact⟨f261.name,oi,fk func261⟩;exact⟨f262.name,oi,fk func262⟩;exact⟨f263.name,oi,fk func263⟩;exact fk func204;exact fk func205;exact⟨f308.name,oi,fk func308⟩;exact fk func276;exact fk func277;exact⟨f309.name,oi,fk func309⟩;exact⟨f310.name,oi,fk func310⟩;exact⟨f350.name,oi,fk func350⟩;repeat' first|(intros;kernel_rfl)|decide|constructor
end Go.Proofs
namespace Go.Ev.Pv
open Go.Proofs Go.Shelf
def AQZ:FSpec:=⟨[.io 199 (.agg (.prod (.agg (.prod (.int .i64) (.prod .str (.prod .bool .str)))) (.agg (.prod (.int .i64) (.prod .str (.prod .bool .str)))))),.hof true (.prod (.agg (.prod (.agg (.prod (.int .i64) (.prod .str (.prod .bool .str)))) (.agg (.prod (.int .i64) (.prod .str (.prod .bool .str)))))) (.agg (.prod (.agg (.prod (.int .i64) (.prod .str (.prod .bool .str)))) (.agg (.prod (.int .i64) (.prod .str (.prod .bool .str))))))) (.int .i64)],[],uQ,true⟩
theorem AQ_:FK Go.Proofs.Tryz.prog 78/\FunOK Go.Proofs.Tryz.prog 78 AQZ:=
 ⟨entered Tryz.func78 oe oe,A0g wj rfl Tryz.isAgg199 Tryz.sizeOf199 oi⟩
def AQa:FSpec:=⟨[.io 163 (.agg (.prod (.int .i64) (.int .i64))),.hof true (.prod (.agg (.prod (.int .i64) (.int .i64))) (.agg (.prod (.int .i64) (.int .i64)))) (.int .i64)],[],A3_,true⟩
theorem AQb:FK Go.Proofs.Tryz.prog 106/\FunOK Go.Proofs.Tryz.prog 106 AQa:=
 ⟨entered Tryz.func106 oe oe,A0g wg rfl Tryz.isAgg163 Tryz.sizeOf163 oi⟩
def AQc:FSpec:=⟨[.io 256 (.agg (.prod .str .str)),.hof true (.prod (.agg (.prod .str .str)) (.agg (.prod .str .str))) (.int .i64)],[],fR,true⟩
theorem AQd:FK Go.Proofs.Tryz.prog 118/\FunOK Go.Proofs.Tryz.prog 118 AQc:=
 ⟨entered Tryz.func118 oe oe,A0g wh rfl Tryz.isAgg256 Tryz.sizeOf256 oi⟩
variable{l:FJ}
variable [Pins]
theorem A8e(h:(l.map (·.1)).Nodup)(x:IY)(v:Bool):DW GI x l=some v<->(x,v)∈l:=by
 induction l with
 |nil=>simp[DW]
 |cons a l d=>rw[CQ]at h;have⟨h1,b⟩:=AV.1 h;simp only[DW];rw[SK];grind
theorem A8f(h:(l.map (·.1)).Nodup):l.Nodup:=(List.pairwise_map.1 h).imp λ{a b} h e=>h (congrArg (·.1) e)
theorem A0h{m:FJ}(a:(l.map (·.1)).Nodup)(b:(m.map (·.1)).Nodup)(h:∀x,DW GI x l=DW GI x m):l.Perm m:=by refine(List.perm_ext_iff_of_nodup (A8f a) (A8f b)).2 λe=>?_;obtain⟨x,v⟩:=e;rw[<-A8e a,<-A8e b,h]
theorem A8g(h:(l.map (·.1)).Nodup)(x:IY)(v:Bool):((EB GI x v l).map (·.1)).Nodup:=by rw[A0R SK];grind
theorem A8h(k a:IY)(v:Bool)(m:FJ):DW GI k (EB GI a v m)=if k=a then some v else DW GI k m:=A0O SK k a v m
theorem A8i:∀(o u:FJ) (x:IY),DW GI x (JT o u)=if x∈o.map (·.1)then some true else DW GI x u:=by
 intro o;induction o with
 |nil=>intro u x;rfl
 |cons k o a=>intro u x;show DW GI x (JT o (EB GI k.1 true u))=_;rw[a,A8h,CQ];grind
theorem A8j:∀(o u:FJ),(u.map (·.1)).Nodup->((JT o u).map (·.1)).Nodup:=by
 intro o;induction o with
 |nil=>intro u h;exact h
 |cons k o a=>intro u h;exact a _ (A8g h k.1 true)
theorem AQe{o o' u:FJ}(h:o'.Perm o)(a:(u.map (·.1)).Nodup):(JT o' u).Perm (JT o u):=by grind[A0h,A8j,A8i]
theorem AQf{o u r:FJ}(d:(u.map (·.1)).Nodup)(b:o.Perm l)(h:FF S9 l u=some (.inl r)):∃a,FF S9 o u=some (.inl a)/\a.Perm r:=by rw[pE]at h ⊢;cases A2 h;exact⟨_,rfl,AQe b d⟩
open Classical in
def StR(p:HJ)(sg:Int)(o u:FJ)(z:Sum (Int×HJ×FJ) Unit):Prop:=(∀k∈o,∃r,O4 (p,k.1,sg)=some r)/\
 ∃L:FJ,z=.inl (sg,p,L)/\((u.map (·.1)).Nodup->(L.map (·.1)).Nodup)/\∀x,DW GI x L=if(∃k∈o,O4 (p,k.1,sg)=some (x,true))then some true else DW GI x u
theorem A8k(p:HJ)(sg:Int):∀(o u:FJ) (z:Sum (Int×HJ×FJ) Unit),FF LZ o (sg,p,u)=some z->StR p sg o u z:=by
 classical
 intro o;induction o with
 |nil=>intro u z h;cases A2 h;exact⟨λk h=>(oq),u,rfl,id,λx=>by rw[if_neg (λ⟨k,h,_⟩=>(oq))]⟩
 |cons k o I=>
  intro u z h;unfold FF at h;have⟨y,h1,C⟩:=FH h;unfold LZ at h1;dsimp only at h1;have⟨⟨a,b⟩,D,s⟩:=FH h1;have key:∀d,y=.inl (sg,p,d)->((u.map (·.1)).Nodup->(d.map (·.1)).Nodup)->(∀x,DW GI x d=if b=true/\x=a then some true else DW GI x u)->StR p sg (k::o) u z:=λd H G m=>by
   subst H;have⟨J,L,w,A,B⟩:=I d z C;have all:∀j∈k::o,∃r,O4 (p,j.1,sg)=some r:=λj hk=>by grind
   refine⟨all,L,w,λE=>A (G E),λx=>?_⟩;rw[B x,m x];by_cases e:∃j∈o,O4 (p,j.1,sg)=some (x,true)
   .simp_all
   .rw[if_neg e];by_cases l:b=true/\x=a
    .rw[if_pos l,if_pos ⟨k,AE,by rw[D,l.1,l.2]⟩]
    grind
  cases b with
  |true=>have s:some (Sum.inl (sg,p,EB GI a true u))=some y:=s;grind[Option.some.inj,A8g,A8h]
  |false=>grind
theorem AQg(p:HJ)(sg:Int):∀(o u:FJ),(∀k∈o,∃r,O4 (p,k.1,sg)=some r)->∃z,FF LZ o (sg,p,u)=some z:=by
 intro o;induction o with
 |nil=>intro u _;exact⟨_,rfl⟩
 |cons k o l=>
  intro u h;have⟨⟨a,b⟩,e⟩:=h k AE;unfold FF;have:∃d,LZ k (sg,p,u)=some (.inl (sg,p,d)):=by unfold LZ;dsimp only;rw[e,A0];cases b<;>exact⟨_,rfl⟩
  obtain⟨d,j⟩:=this;simp_all
theorem AQh{p:HJ}{sg:Int}{o u:FJ}{z:Sum (Int×HJ×FJ) Unit}(j:(u.map (·.1)).Nodup)(e:o.Perm l)(h:FF LZ l (sg,p,u)=some z):
 ∃L L':FJ,z=.inl (sg,p,L)/\FF LZ o (sg,p,u)=some (.inl (sg,p,L'))/\L'.Perm L:=by
 classical
 have⟨h1,L,y,A,B⟩:=A8k p sg l u z h;have⟨C,d⟩:=AQg p sg o u λk hk=>h1 k (e.mem_iff.1 hk);have⟨_,L',m,s,w⟩:=A8k p sg o u C d;refine⟨L,L',y,by rw[d,m],A0h (s j) (A j) λx=>?_⟩;rw[w,B];have:(∃k∈o,O4 (p,k.1,sg)=some (x,true))<->∃k∈l,O4 (p,k.1,sg)=some (x,true):=⟨λ⟨k,a,b⟩=>⟨k,e.mem_iff.1 a,b⟩,λ⟨k,a,b⟩=>⟨k,e.mem_iff.2 a,b⟩⟩;simp only[this]
def SN(p:HJ)(k:IY):Option (Option IY):=
 (bif (!(k.2||(decide ((p.2.1.length:Int)<=k.1))))then at? p.2.1 k.1 else some ((0:Int),(0:Int))).bind λy2=>
 (bif ((!(k.2||(decide ((p.2.1.length:Int)<=k.1))))&&(!(DP y2.1 (2:Int))))then at? p.2.1 k.1 else some ((0:Int),(0:Int))).bind λy3=>
 some (bif ((k.2||(decide ((p.2.1.length:Int)<=k.1)))||((!(DP y2.1 (2:Int)))&&(!(DP y3.1 (4:Int)))))then none else some ((IntKind.i64.wrap (k.1+(1:Int))),false))
theorem A8l(p:HJ)(k:IY×Bool)(l:FJ)(b:Bool):LY k (l,p,b)=(SN p k.1).bind λw=>match w with
 |none=>some (.inl (l,p,b))
 |some x=>bif (DW GI x l).getD false then some (.inl (l,p,b))else some (.inl (JT l [(x,true)],p,true)):=by
 unfold LY SN;dsimp only;cases (bif (!(k.1.2||(decide ((p.2.1.length:Int)<=k.1.1))))then at? p.2.1 k.1.1 else some ((0:Int),(0:Int)))with
 |none=>rfl
 |some y=>
  rw[A0,A0];cases (bif ((!(k.1.2||(decide ((p.2.1.length:Int)<=k.1.1))))&&(!(DP y.1 (2:Int))))then at? p.2.1 k.1.1 else some ((0:Int),(0:Int)))with
  |none=>rfl
  |some a=>
   rw[A0,A0,A0];cases ((k.1.2||(decide ((p.2.1.length:Int)<=k.1.1)))||((!(DP y.1 (2:Int)))&&(!(DP a.1 (4:Int)))))with
   |true=>rfl
   |false=>rw[A8,A8,A7n];show(bif (!((DW GI ((IntKind.i64.wrap (k.1.1+(1:Int))),false) l).getD false))then _ else _)=_;simp
def SO(p:HJ)(o:FJ)(x:IY):Prop:=∃k∈o,SN p k.1=some (some x)
theorem AQi(l:FJ)(x:IY):((l.map (·.1)).Nodup->((JT l [(x,true)]).map (·.1)).Nodup)/\∀y,DW GI y (JT l [(x,true)])=if y=x\/y∈l.map (·.1)then some true else none:=by refine⟨λ_=>A8j _ _ oh,λy=>?_⟩;rw[A8i];by_cases h:y∈l.map (·.1)<;>simp_all[if_pos,if_neg,DW,SK,A7,A6,A9,A8]
theorem AQj{x:IY}{v:Bool}(h:DW GI x l=some v):x∈l.map (·.1):=by
 induction l with
 |nil=>cases h
 |cons a l b=>simp only[DW]at h;rw[SK]at h;grind
def WdR(p:HJ)(o l:FJ)(b:Bool)(l':FJ)(b':Bool):Prop:=
 ((∀x,SO p o x->(DW GI x l).getD false=true)/\l'=l/\b'=b)\/
 ((∃x,SO p o x/\(DW GI x l).getD false=false)/\b'=true/\(l'.map (·.1)).Nodup/\∀y,((SO p o y\/y∈l.map (·.1))->DW GI y l'=some true)/\(¬(SO p o y\/y∈l.map (·.1))->DW GI y l'=none))
theorem A8m(p:HJ):∀(o l:FJ) (b:Bool) (z:Sum (FJ×HJ×Bool) Unit),(l.map (·.1)).Nodup->FF LY o (l,p,b)=some z->(∀k∈o,∃r,SN p k.1=some r)/\∃s j,z=.inl (s,p,j)/\WdR p o l b s j:=by
 intro o;induction o with
 |nil=>intro l b z _ h;cases A2 h;exact⟨λk h=>(oq),l,b,rfl,.inl ⟨λx ⟨k,h,_⟩=>(oq),rfl,rfl⟩⟩
 |cons k o Q=>
  intro l b z J h;unfold FF at h;rw[A8l]at h;have⟨y,h1,M⟩:=FH h;have⟨w,U,I⟩:=FH h1;have all:(∀k∈o,∃r,SN p k.1=some r)->∀m∈k::o,∃r,SN p m.1=some r:=λg m hk=>by
   rcases A_.1 hk with rfl|hk
   .grind
   .exact g m hk
  have d:∀x,SO p (k::o) x<->w=some x\/SO p o x:=λx=>by
   constructor
   .rintro⟨m,hk,B⟩;rcases A_.1 hk with rfl|hk
    .grind
    .exact .inr ⟨m,hk,B⟩
   .rintro(rfl|⟨m,hk,B⟩)
    .exact⟨k,AE,U⟩
    .exact⟨m,AN _ hk,B⟩
  have same:y=.inl (l,p,b)->(∀x,w=some x->(DW GI x l).getD false=true)->(∀m∈k::o,∃r,SN p m.1=some r)/\∃s j,z=.inl (s,p,j)/\WdR p (k::o) l b s j:=λa O=>by
   subst a;have⟨E,s,j,G,H⟩:=Q l b z J M;refine⟨all E,s,j,G,?_⟩;rcases H with⟨A,D,C⟩|⟨⟨x,T,A⟩,D,C,L⟩
   .exact .inl ⟨λx B=>((d x).1 B).elim (O x) (A x),D,C⟩
   .refine .inr ⟨⟨x,(d x).2 (.inr T),A⟩,D,C,λy=>⟨λa=>?_,λa=>(L y).2 λh=>a (h.imp (λh=>(d y).2 (.inr h)) id)⟩⟩;rcases a with a|a
    .rcases(d y).1 a with a|a
     .have:=O y a;cases e:DW GI y l<;>grind[DW,GI,AQj]
     grind
    grind
  cases w with
  |none=>simp_all
  |some x=>
   dsimp only at I;cases N:(DW GI x l).getD false with
   |true=>grind
   |false=>
    rw[N,A8]at I;cases A2 I;have⟨R,K⟩:=AQi l x;have⟨E,s,j,G,H⟩:=Q _ true z (R J) M;refine⟨all E,s,j,G,.inr ⟨⟨x,(d x).2 (.inl rfl),N⟩,?_⟩⟩;rcases H with⟨A,rfl,rfl⟩|⟨_,rfl,C,L⟩
    .refine⟨rfl,R J,λy=>⟨λa=>?_,λa=>?_⟩⟩
     .rw[K];rcases a with a|a
      .rcases(d y).1 a with a|a
       .grind
       .have:=A y a;rw[K]at this;by_cases e:y=x\/y∈l.map (·.1)<;>grind
      grind
     .rw[K,if_neg];grind
    .have hk:∀y,y∈(JT l [(x,true)]).map (·.1)<->y=x\/y∈l.map (·.1):=λy=>by rw[A7m];simp[or_comm]
     grind
theorem AQk(p:HJ):∀(o l:FJ) (b:Bool),(∀k∈o,∃r,SN p k.1=some r)->∃z,FF LY o (l,p,b)=some z:=by
 intro o;induction o with
 |nil=>intro l b _;exact⟨_,rfl⟩
 |cons k o m=>
  intro l b h;have⟨r,j⟩:=h k AE;have:∃d a,LY k (l,p,b)=some (.inl (d,p,a)):=by
   rw[A8l,j,A0];cases r with
   |none=>simp
   |some x=>dsimp only;cases (DW GI x l).getD false<;>exact⟨_,_,rfl⟩
  obtain⟨d,a,e⟩:=this;unfold FF;rw[e,A0];exact m d a λk hk=>h k (AN _ hk)
theorem AQl{p:HJ}{o u:FJ}{b:Bool}{z:Sum (FJ×HJ×Bool) Unit}(m:(u.map (·.1)).Nodup)(e:o.Perm l)(h:FF LY l (u,p,b)=some z):
 ∃(L L':FJ) (b':Bool),z=.inl (L,p,b')/\FF LY o (u,p,b)=some (.inl (L',p,b'))/\L'.Perm L:=by
 have⟨h1,L,b',E,G⟩:=A8m p l u b z m h;have⟨H,d⟩:=AQk p o u b λk hk=>h1 k (e.mem_iff.1 hk);have⟨_,L',A,D,j⟩:=A8m p o u b H m d;have M:∀x,SO p o x<->SO p l x:=λx=>⟨λ⟨k,a,c⟩=>⟨k,e.mem_iff.1 a,c⟩,λ⟨k,a,c⟩=>⟨k,e.mem_iff.2 a,c⟩⟩;rcases G with⟨s,rfl,rfl⟩|⟨⟨x,I,s⟩,rfl,w,J⟩
 .rcases j with⟨_,rfl,rfl⟩|⟨⟨y,c0,B⟩,_⟩<;>grind
 .rcases j with⟨B,_⟩|⟨_,rfl,C,K⟩
  .grind
  .refine⟨L,L',true,E,by rw[d,D],A0h C w λy=>?_⟩;grind
abbrev tSpot:Ty:=.agg (.prod (.int .i64) .bool)
abbrev SP:Ty:=.prod .str (.prod (.slice (.agg (.prod (.int .i64) (.int .u8)))) (.int .i64))
theorem AQm(v:TupR [.it tSpot .bool,.omap tSpot .bool])(x:H3 [((.exit 0),⟨[5],[.omap tSpot .bool]⟩),(.ret,⟨[],[]⟩)])(b:VN [.it tSpot .bool,.omap tSpot .bool] v)(e:FF S9 v.1 v.2=some x)
 (o:List (tSpot.T×Ty.bool.T))(d:o.Perm (show List (tSpot.T×Ty.bool.T)from v.1)):∃z,FF S9 o v.2=some z/\VM [((.exit 0),⟨[5],[.omap tSpot .bool]⟩),(.ret,⟨[],[]⟩)] z x:=by
 have h:some (Sum.inl (JT v.1 v.2))=some x:=(pE v.1 v.2).symm.trans e;have h:=A2 h;subst h;have⟨r,h1,a⟩:=AQf (o:=o) b.2 d (pE _ _);exact⟨_,h1,a⟩
theorem AQn(v:TupR [.it tSpot .bool,.val (.int .i64),.box (.val SP),.omap tSpot .bool])(x:H3 [((.exit 0),⟨[2,3,7],[.val (.int .i64),.box (.val SP),.omap tSpot .bool]⟩),(.ret,⟨[],[]⟩)])
 (b:VN [.it tSpot .bool,.val (.int .i64),.box (.val SP),.omap tSpot .bool] v)(e:FF LZ v.1 v.2=some x)(o:List (tSpot.T×Ty.bool.T))(d:o.Perm (show List (tSpot.T×Ty.bool.T)from v.1)):
 ∃z,FF LZ o v.2=some z/\VM [((.exit 0),⟨[2,3,7],[.val (.int .i64),.box (.val SP),.omap tSpot .bool]⟩),(.ret,⟨[],[]⟩)] z x:=by
 obtain⟨l,s,p,u⟩:=v;have⟨L,L',h1,h,a⟩:=AQh (p:=p) (sg:=s) (l:=l) (o:=o) (u:=u) b.2.2.2 d e;have h1:=h1.symm;subst h1;exact⟨_,h,⟨rfl,rfl,a⟩⟩
theorem AQo(v:TupR [.it tSpot .bool,.val (.map tSpot .bool),.box (.val SP),.val .bool])(x:H3 [((.exit 2),⟨[1,2,5],[.val (.map tSpot .bool),.box (.val SP),.val .bool]⟩),(.ret,⟨[],[]⟩)])
 (d:VN [.it tSpot .bool,.val (.map tSpot .bool),.box (.val SP),.val .bool] v)(j:FF LY v.1 v.2=some x)(o:List (tSpot.T×Ty.bool.T))(e:o.Perm (show List (tSpot.T×Ty.bool.T)from v.1)):
 ∃z,FF LY o v.2=some z/\VM [((.exit 2),⟨[1,2,5],[.val (.map tSpot .bool),.box (.val SP),.val .bool]⟩),(.ret,⟨[],[]⟩)] z x:=by
 obtain⟨l,u,p,b⟩:=v;have⟨L,L',m,h1,h,a⟩:=AQl (p:=p) (l:=l) (o:=o) (u:=u) (b:=b) d.2.1 e j;have h1:=h1.symm;subst h1;exact⟨_,h,⟨a,rfl,rfl⟩⟩
end Go.Ev.Pv
