/-
  The contracts of Go's library that the law reaches, in the evaluator's terms.
-/
import Derived.Shelf.Small.Strs
import Derived.Shelf.Small.Wraps
import Derived.Shelf.Utf8.RuneCount
import Derived.Shelf.Strings.Builder2Cap
import Derived.Shelf.Strconv.Itoa3
import Derived.Shelf.Strconv.AtoiAll
import Derived.Shelf.Strconv.ParseUintEmpty
import Derived.Shelf.Strconv.ParseUint10b64
import Derived.Shelf.Strconv.ParseUint10b32
import Derived.Shelf.Strconv.ParseUint10b16
import Derived.Shelf.Strconv.ParseUint10b8
import Derived.Shelf.Strings.Shaped
import Derived.Shelf.Sort.Plain
import Derived.Shelf.Strings.LastIndex
import Derived.Shelf.Strings.SplitShaped
import Derived.Shelf.Strings.Explode
import Derived.Shelf.Strings.Repeat
import Derived.Shelf.Strings.CaseAny
import Derived.Shelf.Strings.FieldsFuncGrows
import Derived.Shelf.Slices.Turned
import Derived.Shelf.Slices.SearchI
import Derived.Shelf.Slices.Cells
import Derived.Shelf.Slices.In.SortNone
import Derived.Shelf.Slices.Empties2
import Derived.Shelf.SlicesE.Compact
import Derived.Shelf.SlicesE.IndexFunc
import Derived.Test.YtkmlfnhigaoplaaGreatDoorProg
import Derived.Lib.AppendIntMem
import Derived.Shelf.SlSortCmp.NoneTotal
import Derived.Lib.QuietBelow
import Derived.Deep.MidRow
import Derived.Test.YtkmlfnhigaoplaaGreatDoorMA4
set_option linter.all false
set_option maxRecDepth 1000000
set_option maxHeartbeats 16000000
noncomputable section
namespace Go.Ev
variable{v:Value}{a:Ty}{args:List Value}
variable [Pins]
open Go.RowKit
def imNew(I:Im)(X:Nat->Nat->Prop):Im:=⟨λb o=>I.cell b o\/X b o,I.obj⟩
theorem After.below{w w':World}{I:Im}(d:HQ w I)(a:Below w.heap.size w w'){X:Nat->Nat->Prop}(l:∀b o,X b o->w.heap.size<=b/\b<w'.heap.size):
 After (·∈([]:List Nat)) w I w' (imNew I X):=by
 have j:Ext w I w' (imNew I X):=⟨λb o h=>⟨.inl h,by simp only[World.cell?,a.block b (d.1 b o h)]⟩,λb h=>⟨h,a.block b (d.2.1 b h)⟩⟩
 exact ⟨j,λb e _=>a.block b e,a.size,λb o h=>h.imp id λh=>.inl (l b o h).1,λb h=>.inl h,
  λb o h=>h.elim (λh=>AO (d.1 b o h) a.size) λh=>(l b o h).2,λb h=>AO (d.2.1 b h) a.size,a.os,a.tape,a.output,d.2.2.ext j⟩
theorem FunOK.given{P:Program}{f:Nat}{s:FSpec}(h:∀(w:World) (I:Im) (v:TupR s.ps) (args:List Value) (bs:List Nat),HQ w I->ShL P w I s.ps v args bs->∀r,s.F v=some r->bs=[]/\
 Calls P f args.toArray w λe a=>∃l d X,e=.returned l/\d.length=s.rs.length/\M9 d l/\Below w.heap.size w a/\(s.dr=true->w.drawn<=a.drawn)/\(∀b o,X b o->w.heap.size<=b/\b<a.heap.size)/\
  ShL P a (imNew I X) (s.rs++s.ps.filter ES) r (d++I4 s.ps args) []):FunOK P f s:=by
 intro w I v args bs p j x r y;obtain⟨rfl,m⟩:=h w I v args bs p j r y;refine m.mono λe a ⟨l,d,X,h1,z,A,B,E,C,D⟩=>?_;grind[imNew,After.below]
def noX:Nat->Nat->Prop:=λ_ _=>False
theorem noX_ok{w w':World}:∀b o,noX b o->w.heap.size<=b/\b<w'.heap.size:=λ_ _ h=>h.elim
section
variable{P:Program}{w:World}{I:Im}
theorem in_str{x:DK}(h:VRel w I .str x v):v=.string ⟨x.toArray⟩/\x.length<=281474976710656:=by
 obtain⟨c,h1,a,b⟩:=h;have h1:c=[v]:=h1;grind
theorem pR{k:IntKind}{n:Int}(h:VRel w I (.int k) n v):v=.int k n/\FY k n:=by
 obtain⟨c,h1,a,b⟩:=h;have h1:c=[v]:=h1;grind
theorem APd{b:Bool}(h:VRel w I .bool b v):v=.bool b:=by
 obtain⟨c,h1,a⟩:=h;have h1:c=[v]:=h1;have a:c=[.bool b]:=a;grind
theorem O8{x:DK}(h:x.length<=281474976710656):VRel w I .str x (.string ⟨x.toArray⟩):=⟨_,rfl,rfl,h⟩
theorem out_int{k:IntKind}{n:Int}(h:FY k n):VRel w I (.int k) n (.int k n):=⟨_,rfl,rfl,h⟩
theorem A0T{b:Bool}:VRel w I .bool b (.bool b):=⟨_,rfl,rfl⟩
theorem in1{x:a.T}{bs:List Nat}(h:ShL P w I [.val a] x args bs):bs=[]/\∃v,args=[v]/\VRel w I a x v:=by
 obtain⟨v,rfl,h1,rfl⟩:=h;grind
theorem QP{b:Ty}{x:a.T×b.T}{bs:List Nat}(h:ShL P w I [.val a,.val b] x args bs):bs=[]/\∃v u,args=[v,u]/\VRel w I a x.1 v/\VRel w I b x.2 u:=by
 obtain⟨v,l,d,e,rfl,rfl,⟨h1,rfl⟩,u,rfl,j,rfl⟩:=h;grind
theorem NE{x:a.T}(h:VRel w I a x v):ShL P w I [.val a] x [v] []:=⟨v,rfl,h,rfl⟩
theorem APe{b:Ty}{x:a.T×b.T}{u:Value}(h:VRel w I a x.1 v)(k:VRel w I b x.2 u):ShL P w I [.val a,.val b] x [v,u] []:=
 ⟨v,[u],[],[],rfl,rfl,⟨h,rfl⟩,u,rfl,k,rfl⟩
theorem out3{b c:Ty}{x:a.T×b.T×c.T}{u t:Value}(h:VRel w I a x.1 v)(k:VRel w I b x.2.1 u)(m:VRel w I c x.2.2 t):ShL P w I [.val a,.val b,.val c] x [v,u,t] []:=
 ⟨v,[u,t],[],[],rfl,rfl,⟨h,rfl⟩,u,[t],[],[],rfl,rfl,⟨k,rfl⟩,t,rfl,m,rfl⟩
end
theorem FunOK.flat1{P:Program}{f:Nat}{s:FSpec}{t:Ty}(d:s.rs=[.val t])(A:s.ps.filter ES=[])(p:∀args,I4 s.ps args=[])
 (h:∀ (w:World) (I:Im) (v:TupR s.ps) (args:List Value) (bs:List Nat),HQ w I->ShL P w I s.ps v args bs->∀ r,s.F v=some r->bs=[] /\
  ∃a,(∀b I',ShL P b I' (s.rs++s.ps.filter ES) r [a] [])/\Calls P f args.toArray w λe b=>e=.returned a/\Below w.heap.size w b/\(s.dr=true->w.drawn<=b.drawn)):FunOK P f s:=by
 refine FunOK.given λw I v args bs z j r B=>?_;have⟨h1,a,C,l⟩:=h w I v args bs z j r B;refine⟨h1,l.mono λe b ⟨y,m,x⟩=>⟨a,[a],noX,y,by rw[d];rfl,rfl,m,x,noX_ok,?_⟩⟩;grind
end Go.Ev
namespace Go.Proofs
open Tryz
theorem fk{α:Type}{a:Option α}{b c:α}(h:a=some b)(k:b=c:=by kernel_rfl):a=some c:=h.trans (congrArg some k)
open Go.Shelf
def uw:Go.Shelf.Ren:=⟨λ|169=>182|n=>n,λ|70=>324|9=>9|0=>0|72=>327|37=>325|127=>389|3=>3|5=>5|n=>n,λ|n=>n⟩
theorem vr:Go.Proofs.Lays.n169 Tryz.prog uw:=by repeat' first|(intros;kernel_rfl)|decide|constructor
theorem ub:Builder.Extra Tryz.prog uw:=by repeat' first|(intros;kernel_rfl)|decide|constructor
def ux:Go.Shelf.Ren:=⟨λ|158=>310|165=>226|166=>181|167=>180|169=>182|230=>300|203=>350|240=>227|241=>275|197=>315|118=>346|168=>347|270=>348|262=>349|276=>276|277=>318|260=>353|242=>372|313=>373|278=>388|274=>389|275=>390|n=>n,λ|9=>9|4=>4|3=>3|5=>5|72=>327|0=>0|76=>332|75=>330|107=>470|70=>324|20=>20|37=>325|127=>389|21=>21|105=>484|164=>440|162=>524|203=>522|119=>525|46=>112|139=>528|138=>527|51=>180|160=>543|208=>561|206=>559|80=>167|n=>n,λ|13=>1|3=>2|4=>3|n=>n⟩
theorem vu:Go.Proofs.Lays.n158 Tryz.prog ux:=by repeat' first|(intros;kernel_rfl)|decide|constructor
theorem uc:Builder.Extra Tryz.prog ux:=by repeat' first|(intros;kernel_rfl)|decide|constructor
abbrev tn:=Any.strings_ToUpper_ascii vu uc
def uy:Go.Shelf.Ren:=⟨λ|159=>243|165=>226|166=>181|167=>180|169=>182|230=>300|204=>301|240=>227|241=>275|197=>315|118=>346|168=>347|270=>348|262=>349|276=>276|277=>318|260=>353|242=>372|313=>373|278=>388|274=>389|275=>390|n=>n,λ|9=>9|4=>4|3=>3|5=>5|72=>327|0=>0|76=>332|75=>330|107=>470|70=>324|20=>20|37=>325|127=>389|21=>21|105=>484|164=>440|162=>524|203=>522|119=>525|46=>112|139=>528|138=>527|51=>180|160=>543|208=>561|206=>559|80=>167|n=>n,λ|13=>1|3=>2|4=>3|n=>n⟩
theorem vv:Go.Proofs.Lays.n159 Tryz.prog uy:=by repeat' first|(intros;kernel_rfl)|decide|constructor
theorem ud:Builder.Extra Tryz.prog uy:=by repeat' first|(intros;kernel_rfl)|decide|constructor
def uz:Go.Shelf.Ren:=⟨λ|156=>178|165=>226|166=>181|169=>182|240=>227|241=>275|276=>276|277=>318|n=>n,λ|31=>31|9=>9|3=>3|4=>4|0=>0|20=>20|72=>327|76=>332|70=>324|37=>325|75=>330|127=>389|164=>440|5=>5|80=>167|n=>n,λ|n=>n⟩
theorem vw:Go.Proofs.Lays.n156 Tryz.prog uz:=by repeat' first|(intros;kernel_rfl)|decide|constructor
theorem ue:Builder.Extra Tryz.prog uz:=by repeat' first|(intros;kernel_rfl)|decide|constructor
abbrev uf:=Any.strings_Join_none vw ue
abbrev uq:=Any.strings_Join vw ue
def v0:Go.Shelf.Ren:=⟨λ|137=>127|217=>176|266=>224|n=>n,λ|9=>9|5=>5|3=>3|n=>n,λ|n=>n⟩
theorem vy:Go.Proofs.Lays.n137 Tryz.prog v0:=by repeat' first|(intros;kernel_rfl)|decide|constructor
abbrev ug:=Any.strings_IndexByte vy
def v4:Go.Shelf.Ren:=⟨λ|103=>298|210=>342|206=>271|n=>n,λ|9=>9|4=>4|24=>370|3=>3|n=>n,λ|n=>n⟩
theorem vz:Go.Proofs.Lays.n103 Tryz.prog v4:=by repeat' first|(intros;kernel_rfl)|decide|constructor
abbrev uh:=Any.strings_CutPrefix vz
def ur:Go.Shelf.Ren:=⟨λ|171=>332|243=>365|246=>381|283=>394|284=>395|285=>396|286=>397|129=>74|317=>403|318=>404|319=>405|320=>406|337=>409|338=>410|n=>n,λ|3=>3|9=>9|2=>2|4=>4|171=>549|0=>0|53=>182|37=>325|5=>5|173=>551|212=>563|51=>180|20=>20|213=>564|46=>112|232=>569|233=>570|n=>n,λ|17=>6|18=>7|19=>8|n=>n⟩
theorem vo:Go.Proofs.LaysM.n171 Tryz.prog ur:=by repeat' first|(intros;kernel_rfl)|decide|constructor
def uv:Go.Shelf.Ren:=⟨λ|172=>339|244=>369|245=>370|247=>383|279=>384|280=>385|281=>386|282=>387|287=>399|316=>400|171=>332|205=>401|321=>407|322=>408|243=>365|246=>381|283=>394|284=>395|285=>396|286=>397|129=>74|317=>403|318=>404|319=>405|320=>406|337=>409|338=>410|n=>n,λ|9=>9|3=>3|75=>330|76=>332|4=>4|5=>5|167=>537|37=>325|0=>0|85=>538|2=>2|168=>540|53=>182|175=>553|46=>112|210=>556|127=>389|145=>568|143=>566|21=>21|171=>549|173=>551|212=>563|51=>180|20=>20|213=>564|232=>569|233=>570|80=>167|n=>n,λ|15=>4|16=>5|17=>6|18=>7|19=>8|n=>n⟩
theorem vq:Go.Proofs.LaysC.n172 Tryz.prog uv:=by repeat' first|(intros;kernel_rfl)|decide|constructor
abbrev uk:=Any.strconv_Atoi_ok vq
abbrev tt:=Any.strconv_Atoi_syntax vq
abbrev tw:=Any.strconv_Atoi_range vq
def v6:Go.Shelf.Ren:=⟨λ|145=>289|220=>336|219=>317|217=>176|225=>354|224=>355|267=>356|266=>224|314=>375|n=>n,λ|9=>9|4=>4|59=>460|3=>3|5=>5|46=>112|146=>529|51=>180|n=>n,λ|1=>0|n=>n⟩
theorem wb:Go.Proofs.Lays.n145 Tryz.prog v6:=by repeat' first|(intros;kernel_rfl)|decide|constructor
abbrev v7:=Any.strings_Cut wb
def v8:Go.Shelf.Ren:=⟨λ|189=>20|125=>39|257=>38|128=>73|129=>74|294=>64|295=>65|296=>66|297=>67|298=>68|299=>69|216=>70|300=>71|301=>72|328=>110|329=>111|330=>112|331=>113|332=>114|215=>87|343=>163|n=>n,λ|28=>27|3=>3|46=>112|0=>0|51=>180|53=>182|4=>4|183=>172|182=>171|131=>177|5=>5|9=>9|218=>247|222=>251|228=>302|229=>303|n=>n,λ|n=>n⟩
theorem wc:Go.Proofs.Lays.n189 Tryz.prog v8:=by repeat' first|(intros;kernel_rfl)|decide|constructor
abbrev ul:=Any.slices_Sort_int wc
def vb:Go.Shelf.Ren:=⟨λ|149=>293|222=>337|n=>n,λ|9=>9|5=>5|3=>3|4=>4|n=>n,λ|n=>n⟩
theorem wd:Go.Proofs.Lays.n149 Tryz.prog vb:=by repeat' first|(intros;kernel_rfl)|decide|constructor
abbrev tp:=Any.strings_LastIndexByte wd
def vi:Go.Shelf.Ren:=⟨λ|99=>222|206=>271|n=>n,λ|9=>9|4=>4|3=>3|n=>n,λ|n=>n⟩
theorem wm:Go.Proofs.Lays.n99 Tryz.prog vi:=by repeat' first|(intros;kernel_rfl)|decide|constructor
abbrev ui:=Any.strings_HasPrefix wm
def vc:Go.Shelf.Ren:=⟨λ|101=>294|208=>338|206=>271|n=>n,λ|9=>9|4=>4|3=>3|n=>n,λ|n=>n⟩
theorem we:Go.Proofs.Lays.n101 Tryz.prog vc:=by repeat' first|(intros;kernel_rfl)|decide|constructor
abbrev tz:=Any.strings_TrimPrefix we
def vd:Go.Shelf.Ren:=⟨λ|146=>175|221=>223|268=>272|138=>273|143=>274|195=>314|197=>315|218=>316|219=>317|260=>353|217=>176|225=>354|224=>355|267=>356|266=>224|314=>375|n=>n,λ|9=>9|31=>31|3=>3|4=>4|0=>0|105=>484|21=>21|5=>5|46=>112|119=>525|139=>528|138=>527|146=>529|51=>180|n=>n,λ|1=>0|3=>2|4=>3|n=>n⟩
theorem wg:Go.Proofs.Lays.n146 Tryz.prog vd:=by repeat' first|(intros;kernel_rfl)|decide|constructor
open Go.RowKit Go.Lib in
theorem un(s sep:ByteArray)(m:Int)(w:World)(a:s.size<4294967281)(h:w.cell? ⟨0,0,none⟩=some (.int .i64 m))(h1:1<=sep.size):
 Calls Tryz.prog 175 #[.string s,.string sep] w λe b=>
  e=.returned (.slice (some ⟨w.heap.size,0,none⟩) (Lib.countB s sep+1) (Lib.countB s sep+1))/\b=w.alloc (.cells ((Lib.splitB sep 0 (Lib.countB s sep) s).map Value.string).toArray 9):=Any.strings_Split wg oe s sep m w a h h1
def ve:Go.Shelf.Ren:=⟨λ|105=>364|212=>379|99=>222|165=>226|166=>181|170=>380|169=>182|263=>392|264=>393|206=>271|240=>227|241=>275|276=>276|277=>318|n=>n,λ|9=>9|3=>3|4=>4|20=>20|0=>0|46=>112|109=>534|5=>5|72=>327|76=>332|51=>180|146=>529|53=>182|148=>547|70=>324|37=>325|75=>330|127=>389|164=>440|80=>167|n=>n,λ|n=>n⟩
theorem wh:Go.Proofs.Lays.n105 Tryz.prog ve:=by repeat' first|(intros;kernel_rfl)|decide|constructor
theorem uj:Builder.Extra Tryz.prog ve:=by repeat' first|(intros;kernel_rfl)|decide|constructor
abbrev um:=Any.strings_Repeat wh uj
def vf:Go.Shelf.Ren:=⟨λ|229=>343|n=>n,λ|9=>9|40=>504|31=>31|152=>518|3=>3|0=>0|4=>4|21=>21|154=>520|n=>n,λ|n=>n⟩
theorem wi:Go.Proofs.Lays.n229 Tryz.prog vf:=by repeat' first|(intros;kernel_rfl)|decide|constructor
abbrev tv:=Any.strings_ToLower_any vv ud
def uo:Go.Shelf.Ren:=⟨λ|20=>21|n=>n,λ|22=>27|3=>3|4=>4|0=>0|n=>n,λ|n=>n⟩
theorem vn:Go.Proofs.Lays2.n20 Tryz.prog uo:=by repeat' first|(intros;kernel_rfl)|decide|constructor
abbrev ua:=Any.slices_Compact_int vn
abbrev t4:=Any.slices_Compact_int_empty vn
abbrev tq:=Any.slices_Sort_int_none wc
end Go.Proofs
namespace Go.Ev.Pv
variable{P:Program}{w w':World}{n b:Nat}{I:Im}{cells:Array Value}{el:TypeId}
open Go.Proofs Go.RowKit Go.Lib
def HoldsTab(w:World)(g:Nat)(k:IntKind)(zs:List Int):Prop:=∃el fz,w.heap[g]?=some (.cells (zs.map λz=>Value.int k z).toArray el fz)
theorem APf{n:String}{g:Nat}{k:IntKind}{z:List Int}(a:P.globalNamed n=some g)(h:HoldsTab w g k z):Lib.TabIs P w n k z:=by
 obtain⟨el,fz,h⟩:=h;simp_all[Lib.TabIs,World.var?,A0]
theorem A8I{o:Go.Obj}(h:w.heap[b]?=some o):b<w.heap.size:=(B2.1 h).1
def Facts(w:World):Prop:=
 HoldsTab w 6 .u64 Lib.pow10Tab/\CaseVar 1 caseA w/\Lib.Utf8Tabs 2 3 w/\(∃m,w.cell? ⟨0,0,none⟩=some (.int .i64 m))/\
 (∃ev,w.cell? ⟨4,0,none⟩=some ev/\(ev=.nilIface\/∃te pe,ev=.iface te pe))/\(∃ev,w.cell? ⟨5,0,none⟩=some ev/\(ev=.nilIface\/∃te pe,ev=.iface te pe))
theorem bX{o:Nat}{v:Value}(h:w.cell? ⟨b,o,none⟩=some v):b<w.heap.size:=by
 apply BI;grind[World.cell?,Array.getElem?_eq_none,Nat.le_of_not_lt]
theorem Facts.below(h:Facts w)(a:Below w.heap.size w w'):Facts w':=by
 obtain⟨h1,x,y,⟨m,e⟩,⟨p,j,b⟩,s,l,d⟩:=h;exact⟨(let ⟨el,fz,h1⟩:=h1;⟨el,fz,(a.block 6 (A8I h1)).trans h1⟩),CaseVar_below x a,Utf8Tabs_below y a,⟨m,(a.cell (bX e)).trans e⟩,⟨p,(a.cell (bX j)).trans j,b⟩,s,(a.cell (bX l)).trans l,d⟩
theorem Facts.later(h:Facts w)(a:∀b,b<w.heap.size->w'.heap[b]?=w.heap[b]?):Facts w':=by
 have j:w.heap.size<=w'.heap.size:=by
  apply BI;intro l;have h1:=a w'.heap.size oa;rw[Array.getElem?_eq_none (AD _),AU oa]at h1;cases h1
 have e:Below w.heap.size w {w' with os:=w.os,tape:=w.tape,output:=w.output}:=⟨rfl,rfl,rfl,j,a⟩;have d:=h.below e;exact d
noncomputable instance:Pins:=⟨Tryz.prog,λw I=>∃w0,Facts w0/\∀b,b<w0.heap.size->I.obj b/\w.heap[b]?=w0.heap[b]?,
 λ⟨w0,h1,h2⟩ e=>⟨w0,h1,λb hb=>⟨(e.obj b (h2 b hb).1).1,(e.obj b (h2 b hb).1).2.trans (h2 b hb).2⟩⟩⟩
theorem facts(h:HQ w I):Facts w:=let ⟨_,h1,h2⟩:=h.2.2;h1.later λb a=>(h2 b a).2
theorem entered{f:Nat}{fn:Func}(h:Tryz.prog.funcs[f]?=some fn)(b:(fn.name== "runtime.NumGoroutine")=false)(a:fn.body=some (EA fn)):FF Tryz.prog f:=⟨fn,_,h,b,a⟩
def APg:FSpec:=⟨[.val (.int .i64)],[.val .str],strconv_Itoa,true⟩
theorem O9:FF Go.Proofs.Tryz.prog 332/\FunOK Go.Proofs.Tryz.prog 332 APg:=by
 refine⟨entered Tryz.func332 oe oe,FunOK.flat1 (t:=.str) rfl rfl (λa=>by cases a<;>rfl) λw I v a bs d h r j=>?_⟩;obtain⟨rfl,x,rfl,m⟩:=in1 h;obtain⟨rfl,h0,h1⟩:=pR m;cases j;refine⟨rfl,.string ⟨(RU v).toArray⟩,λw' I'=>NE (O8 (AM (A3K v) oi)),?_⟩;rw[AIB h0 h1];refine(Any.strconv_Itoa vo v h0 h1 w (APf (g:=6) oe (facts d).1)).mono λe w' ⟨b,k,os,l⟩=>⟨b,?_,λ_=>?_⟩
 .simp_all[Lib.below_grow,AD]
 .rw[l];exact Nat.le_add_right _ _
theorem UC{D:Prop}(h:w'=w):Below w.heap.size w w'/\(D->w.drawn<=w'.drawn):=by
 simp_all[Below.refl,AD]
theorem A8J{D:Prop}(h:∃n,w'=w.drewN n):Below w.heap.size w w'/\(D->w.drawn<=w'.drawn):=by
 obtain⟨n,rfl⟩:=h;exact⟨⟨rfl,rfl,rfl,AD _,λ_ _=>rfl⟩,λ_=>Nat.le_add_right _ _⟩
theorem bY{a:DK}(h:a.length<n):(⟨a.toArray⟩:ByteArray).size<n:=by assumption
theorem APh{a:DK}{k:Nat}(h:a.length*k<=n):(⟨a.toArray⟩:ByteArray).size*k<=n:=by assumption
theorem APi(s p:DK):(Lib.cut s p).1.length<=s.length/\(Lib.cut s p).2.1.length<=s.length:=by
 grind[Lib.cut,List.length_take,List.length_drop]
theorem APj{s:DK}{k:Nat}(h:s.length*k<=140737488355328):(Lib.repeatL s k).length<=281474976710656:=by rw[Lib.repeatL_length,CZ];omega
theorem i64_of{n:Int}(h1:-9223372036854775808<=n)(h:n<=9223372036854775807):FY .i64 n:=⟨h1,h⟩
theorem APk{n:Int}(h:FY .i64 n):n<=9223372036854775807:=h.2
theorem APl(c:UInt8):∀l:List UInt8,Lib.indexByte l c<=l.length:=by
 intro l;induction l<;>grind[Lib.indexByte,List.length_cons]
def APm:FSpec:=⟨[.val .str,.val (.int .u8)],[.val (.int .i64)],strings_IndexByte,true⟩
theorem bZ:FF Go.Proofs.Tryz.prog 127/\FunOK Go.Proofs.Tryz.prog 127 APm:=by
 refine⟨entered Tryz.func127 oe oe,FunOK.flat1 (t:=.int .i64) rfl rfl (λa=>by rcases a with _|⟨_,_|⟨_,_⟩⟩<;>rfl) λw I v a bs s b r h=>?_⟩;obtain⟨rfl,x,y,rfl,l,m⟩:=QP b;obtain⟨rfl,h0⟩:=in_str l;obtain⟨rfl,h1⟩:=pR m;have⟨p,h⟩:=ON h;cases h;refine⟨rfl,_,λw' I'=>NE (out_int (k:=.i64) (n:=Lib.indexByte v.1 v.2.toNat.toUInt8) ?_),?_⟩
 .have k1:=APl v.2.toNat.toUInt8 v.1;have z:=Lib.indexByte_ge v.1 v.2.toNat.toUInt8;exact i64_of oa oa
 .exact(ug ⟨v.1.toArray⟩ v.2 w).mono λe w' ⟨d,j⟩=>⟨d,UC j⟩
theorem APn(s:ByteArray)(c:Int):∀k,-1<=Lib.lastIdx s c k/\Lib.lastIdx s c k<=k:=by
 intro k;induction k<;>grind[zero,Lib.lastIdx]
def APo:FSpec:=⟨[.val .str,.val (.int .u8)],[.val (.int .i64)],strings_LastIndexByte,true⟩
theorem APp:FF Go.Proofs.Tryz.prog 293/\FunOK Go.Proofs.Tryz.prog 293 APo:=by
 refine⟨entered Tryz.func293 oe oe,FunOK.flat1 (t:=.int .i64) rfl rfl (λa=>by rcases a with _|⟨_,_|⟨_,_⟩⟩<;>rfl) λw I v a bs z b r h=>?_⟩;obtain⟨rfl,x,y,rfl,p,s⟩:=QP b;obtain⟨rfl,h0⟩:=in_str p;obtain⟨rfl,h1⟩:=pR s;have⟨j,h⟩:=ON h;cases h;have d:(⟨v.1.toArray⟩:ByteArray).size=v.1.length:=OH v.1;refine⟨rfl,_,λw' I'=>NE (out_int (k:=.i64) (n:=Lib.lastIndexByte ⟨v.1.toArray⟩ v.2) ?_),?_⟩
 .have k1:=APn ⟨v.1.toArray⟩ v.2 (⟨v.1.toArray⟩:ByteArray).size;have A:((⟨v.1.toArray⟩:ByteArray).size:Int)=(v.1.length:Nat):=by rw[d]
  unfold Lib.lastIndexByte;exact i64_of oa oa
 .exact(tp ⟨v.1.toArray⟩ v.2 (bY j) w).mono λe w' ⟨l,m⟩=>⟨l,UC m⟩
def APq:FSpec:=⟨[.val .str,.val .str],[.val .bool],strings_HasPrefix,true⟩
theorem A8K:FF Go.Proofs.Tryz.prog 222/\FunOK Go.Proofs.Tryz.prog 222 APq:=by
 refine⟨entered Tryz.func222 oe oe,FunOK.flat1 (t:=.bool) rfl rfl (λa=>by rcases a with _|⟨_,_|⟨_,_⟩⟩<;>rfl) λw I v a bs p h r d=>?_⟩;obtain⟨rfl,x,y,rfl,l,m⟩:=QP h;obtain⟨rfl,h0⟩:=in_str l;obtain⟨rfl,h1⟩:=in_str m;cases d;exact⟨rfl,_,λw' I'=>NE A0T,(ui ⟨v.1.toArray⟩ ⟨v.2.toArray⟩ w).mono λe w' ⟨b,j⟩=>⟨b,UC j⟩⟩
def APr:FSpec:=⟨[.val .str,.val .str],[.val .str],strings_TrimPrefix,true⟩
theorem APs:FF Go.Proofs.Tryz.prog 294/\FunOK Go.Proofs.Tryz.prog 294 APr:=by
 refine⟨entered Tryz.func294 oe oe,FunOK.flat1 (t:=.str) rfl rfl (λa=>by rcases a with _|⟨_,_|⟨_,_⟩⟩<;>rfl) λw I v a bs p h r d=>?_⟩;obtain⟨rfl,x,y,rfl,l,m⟩:=QP h;obtain⟨rfl,h0⟩:=in_str l;obtain⟨rfl,h1⟩:=in_str m;cases d;exact⟨rfl,_,λw' I'=>NE (O8 (AM (oQ v.1 v.2) h0)),(tz ⟨v.1.toArray⟩ ⟨v.2.toArray⟩ w).mono λe w' ⟨b,j⟩=>⟨b,UC j⟩⟩
def APt:FSpec:=⟨[.val .str,.val .str],[.val .str,.val .bool],strings_CutPrefix,true⟩
theorem APu:FF Go.Proofs.Tryz.prog 298/\FunOK Go.Proofs.Tryz.prog 298 APt:=by
 refine⟨entered Tryz.func298 oe oe,FunOK.given λw I v a bs p h r j=>?_⟩;obtain⟨rfl,x,y,rfl,l,m⟩:=QP h;obtain⟨rfl,h0⟩:=in_str l;obtain⟨rfl,h1⟩:=in_str m;cases j;refine⟨rfl,(uh ⟨v.1.toArray⟩ ⟨v.2.toArray⟩ w).mono λe w' ⟨d,b⟩=>⟨_,[_,_],noX,d,rfl,rfl,(UC (D:=True) b).1,λ_=>(UC b).2 trivial,noX_ok,?_⟩⟩;exact APe (a:=.str) (b:=.bool) (x:=(Lib.trimPrefix v.1 v.2,Lib.hasPrefix v.1 v.2)) (O8 (AM (oQ v.1 v.2) h0)) A0T
def APv:FSpec:=⟨[.val .str,.val .str],[.val .str,.val .str,.val .bool],strings_Cut,true⟩
theorem A8L:FF Go.Proofs.Tryz.prog 289/\FunOK Go.Proofs.Tryz.prog 289 APv:=by
 refine⟨entered Tryz.func289 oe oe,FunOK.given λw I v d bs z b r a=>?_⟩;obtain⟨rfl,x,y,rfl,A,B⟩:=QP b;obtain⟨rfl,h0⟩:=in_str A;obtain⟨rfl,h1⟩:=in_str B;have⟨p,a⟩:=ON a;cases a;have⟨m,h⟩:=(facts z).2.2.2.1;refine⟨rfl,(v7 ⟨v.1.toArray⟩ ⟨v.2.toArray⟩ m w (bY p) h).mono λe w' ⟨s,l⟩=>⟨_,[_,_,_],noX,s,rfl,rfl,(A8J (D:=True) l).1,λ_=>(A8J l).2 trivial,noX_ok,?_⟩⟩;have j:=APi v.1 v.2;exact out3 (a:=.str) (b:=.str) (c:=.bool) (x:=Lib.cut v.1 v.2) (O8 (AM j.1 h0)) (O8 (AM j.2 h0)) A0T
def APw:FSpec:=⟨[.val .str,.val (.int .i64)],[.val .str],strings_Repeat,false⟩
theorem APx:FF Go.Proofs.Tryz.prog 364/\FunOK Go.Proofs.Tryz.prog 364 APw:=by
 refine⟨entered Tryz.func364 oe oe,FunOK.flat1 (t:=.str) rfl rfl (λa=>by rcases a with _|⟨_,_|⟨_,_⟩⟩<;>rfl) λw I v a bs C j r d=>?_⟩;obtain⟨rfl,x,y,rfl,A,B⟩:=QP j;obtain⟨rfl,h0⟩:=in_str A;obtain⟨rfl,h1⟩:=pR B;have⟨⟨m,l⟩,d⟩:=ON d;cases d;have s:((v.2.toNat:Nat):Int)=v.2:=Int.toNat_of_nonneg m
 have hk:v.2.toNat<=9223372036854775807:=by
  have:=APk h1;omega
 have b:=APj l;refine⟨rfl,_,λw' I'=>NE (O8 b),?_⟩;have:=um ⟨v.1.toArray⟩ v.2.toNat w hk (APh l);rw[s]at this;exact this.mono λe w' ⟨p,z⟩=>⟨p,z,λh=>oq⟩
def APy:FSpec:=⟨[.val .str],[.val .str],YV,false⟩
theorem A8M:FF Go.Proofs.Tryz.prog 243/\FunOK Go.Proofs.Tryz.prog 243 APy:=by
 refine⟨entered Tryz.func243 oe oe,FunOK.flat1 (t:=.str) rfl rfl (λa=>by cases a<;>rfl) λw I v a bs j d r b=>?_⟩;obtain⟨rfl,x,rfl,y⟩:=in1 d;obtain⟨rfl,h0⟩:=in_str y;have⟨l,b⟩:=ON b;obtain⟨rfl,m⟩:=str?_some b;exact⟨rfl,_,λw' I'=>NE (O8 m),(tv ⟨v.toArray⟩ w (bY l) (facts j).2.1 (facts j).2.2.1).mono λe w' ⟨p,s⟩=>⟨p,s,λh=>oq⟩⟩
theorem APz(w:World)(t:TypeId)(s:ByteArray):Below w.heap.size w (Lib.bytesWorld w t s):=by
 unfold Lib.bytesWorld;exact Lib.below_freeze (((Below.refl _ _).drew).alloc (AD _) _) (p:=⟨w.heap.size,_,none⟩) (AD _) _
def AQ0:FSpec:=⟨[.val .str],[.val (.int .i64),.any],fI,false⟩
theorem A0U{n:Int}(h:FY .i64 n)(v:Value):ShL P w I [.val (.int .i64),.any] (n,()) [.int .i64 n,v] []:=
 ⟨_,_,[],[],rfl,rfl,⟨out_int h,rfl⟩,v,rfl,rfl⟩
theorem AQ1{s:DK}{v:Int}(h:Lib.atoiAll s=.ok v):FY .i64 v:=by
 unfold Lib.atoiAll at h;grind[i64_of]
theorem AQ2(s:DK):FY .i64 (Lib.atoiSat s):=by
 grind[Lib.atoiSat,i64_of]
theorem strconv_Atoi_ok:FF Go.Proofs.Tryz.prog 339/\FunOK Go.Proofs.Tryz.prog 339 AQ0:=by
 refine⟨entered Tryz.func339 oe oe,FunOK.given λw I v y bs D s r a=>?_⟩;obtain⟨rfl,x,rfl,E⟩:=in1 s;obtain⟨rfl,h0⟩:=in_str E;have⟨G,a⟩:=ON a;have p:(⟨Array.mk v⟩:ByteArray).size<=281474976710656:=by have:=bY (a:=v) (n:=281474976710657) oa;exact Nat.le_of_lt_succ this
 refine⟨rfl,?_⟩;have⟨_,_,_,_,⟨z,B,l⟩,A,C,m⟩:=facts D;cases b:Lib.atoiAll v
 .rename_i n;rw[b]at a;dsimp only at a;cases a;refine(uk ⟨v.toArray⟩ (AM p oi) n b w).mono λe w' ⟨d,j⟩=>⟨_,[_,_],noX,d,rfl,rfl,?_,(λh=>oq),noX_ok,A0U (AQ1 b) _⟩;rcases j with rfl|⟨t,rfl⟩
  .exact Below.refl _ _
  .exact APz _ _ _
 .rw[b]at a;dsimp only at a;cases a;exact(tt ⟨v.toArray⟩ p b z w B l).mono λe w' ⟨N,d,_,_,j⟩=>⟨_,[_,_],noX,d,rfl,rfl,j,(λh=>oq),noX_ok,A0U (i64_of oi oi) _⟩
 .rw[b]at a;dsimp only at a;cases a;exact(tw ⟨v.toArray⟩ p b A w C m).mono λe w' ⟨N,d,_,_,j⟩=>⟨_,[_,_],noX,d,rfl,rfl,j,(λh=>oq),noX_ok,A0U (AQ2 v) _⟩
theorem AQ3{P:Program}{X:Nat->Nat->Prop}{cap:Nat}{xs:List DK}{fz:Nat×Nat}(p:w.heap[b]?=some (.cells cells el fz))(a:xs.length<=cap)(z:xs.length<=281474976710656)
 (s:∀(i:Nat) x,xs[i]?=some x->cells[i]?=some (.string ⟨x.toArray⟩))(A:∀x∈xs,x.length<=281474976710656)(C:∀o,o<xs.length->X b o):
 VRel w (imNew I X) (.slice .str) xs (.slice (some ⟨b,0,none⟩) xs.length cap):=by
 refine⟨_,rfl,_,_,rfl,⟨a,z⟩,(λh=>oq),λB d=>?_⟩;cases d;refine⟨λ_=>rfl,λi x m=>⟨[.string ⟨(show DK from x).toArray⟩],⟨rfl,λj y=>?_⟩,rfl,A x (AJ m)⟩⟩;have l:j=0:=by have:j<1:=y;omega
 subst l;have e:(0+i*Ty.str.sz+0)=i:=by show 0+i*1+0=i;omega
 have hi:i<xs.length:=(A5.1 m).1;refine⟨.inr ?_,?_⟩
 .grind
 .show w.cell? ⟨b,0+i*Ty.str.sz+0,none⟩=_;rw[e];simp only[World.cell?,p,s i x m];rfl
theorem AQ4(sep:ByteArray)(h1:1<=sep.size):∀(k:Nat) (s:ByteArray),Lib.countB s sep=k->(Lib.splitB sep 0 k s).length=k+1:=by
 intro k;induction k with
 |zero=>intro s _;rfl
 |succ k a=>
  intro s hk;by_cases b:Lib.indexB s sep= -1
  .grind[Lib.countB_miss]
  .have h:=Lib.index_ge s.data.toList sep.data.toList;obtain⟨i,hi⟩:∃i:Nat,Lib.indexB s sep=i:=⟨(Lib.indexB s sep).toNat,oc⟩;rw[Lib.splitB_hit sep 0 k s i hi,BJ,a];grind[Lib.countB_hit]
theorem AQ5(sep:ByteArray)(n:Nat):∀(k:Nat) (s:ByteArray),s.size<=n->∀x∈Lib.splitB sep 0 k s,x.size<=n:=by
 intro k;induction k with
 |zero=>grind[Lib.splitB_zero,List.mem_singleton]
 |succ k b=>
  intro s a x h;unfold Lib.splitB at h;split at h
  .grind
  .rcases A_.1 h with rfl|h
   .rw[CE];omega
   grind[ByteArray.size_extract]
def AQ6:FSpec:=⟨[.val .str,.val .str],[.own 9 .str false],strings_Split,true⟩
theorem A8N:FF Go.Proofs.Tryz.prog 175/\FunOK Go.Proofs.Tryz.prog 175 AQ6:=by
 refine⟨entered Tryz.func175 oe oe,λw I v K bs B J W r H=>?_⟩;obtain⟨rfl,x,y,rfl,l,X⟩:=QP J;obtain⟨rfl,h0⟩:=in_str l;obtain⟨rfl,h1⟩:=in_str X;have⟨⟨M,T⟩,H⟩:=ON H;cases H;have⟨m,G⟩:=(facts B).2.2.2.1;have s:1<=(⟨Array.mk v.2⟩:ByteArray).size:=T;have a:=AQ4 ⟨Array.mk v.2⟩ s _ ⟨Array.mk v.1⟩ rfl;refine(un ⟨v.1.toArray⟩ ⟨v.2.toArray⟩ m w (bY M) G s).mono λe w' ⟨V,O⟩=>?_;obtain⟨L,j⟩:∃L,L=Lib.splitB ⟨v.2.toArray⟩ 0 (Lib.countB ⟨v.1.toArray⟩ ⟨v.2.toArray⟩) ⟨v.1.toArray⟩:=⟨_,rfl⟩;have z:∀b∈L,b.size<=v.1.length:=λb p=>AQ5 ⟨v.2.toArray⟩ v.1.length _ ⟨v.1.toArray⟩ (Nat.le_of_eq (OH v.1)) b (j▸p)
 have A:w'.heap[w.heap.size]?=some (.cells (L.map Value.string).toArray 9 (0,0)):=by
  rw[O,j];show(w.heap.push _)[w.heap.size]?=_;rw[D3]
 have D:Below w.heap.size w w':=by rw[O];exact(Below.refl _ _).alloc (AD _) _
 have N:Lib.countB ⟨v.1.toArray⟩ ⟨v.2.toArray⟩<=v.1.length+1:=Lib.count_le v.1 v.2;have R:v.1.length<4294967281:=M;have a:L.length=Lib.countB ⟨v.1.toArray⟩ ⟨v.2.toArray⟩+1:=by rw[j];exact a
 have C:L.length<=281474976710656:=oa
 have d:(L.map λb=>b.data.toList).length=L.length:=AY ..
 have U:∀b o,(b=w.heap.size/\o<L.length)->w.heap.size<=b/\b<w'.heap.size:=by
  rintro b o ⟨rfl,_⟩;exact⟨AD _,A8I A⟩
 refine⟨_,[_],imNew I λb o=>b=w.heap.size/\o<L.length,[w.heap.size],V,rfl,rfl,After.below B D U,⟨_,rfl,.inr ⟨w.heap.size,Lib.countB ⟨v.1.toArray⟩ ⟨v.2.toArray⟩+1,(L.map Value.string).toArray,?_,rfl,?_,.of A,?_,?_,(λh=>oq),λ_ o=>?_,λh=>AA _ (B.2.1 _ h)⟩⟩,oh,λk hk=>.inr oc,λ_=>by simp_all⟩
 .rw[<-j];show [Value.slice _ _ _]=[Value.slice _ (L.map λb=>b.data.toList).length _];rw[d,a]
 .rw[<-j];show IN (L.map λb=>b.data.toList).length _;exact⟨AM (Nat.le_of_eq d) (Nat.le_of_eq a),AM (Nat.le_of_eq d) C⟩
 .show(L.map Value.string).toArray.size=_*1;simp[a]
 .rw[<-j];intro i x l;have l:(L.map λb=>b.data.toList)[i]?=some x:=l;rw[AZ]at l;cases p:L[i]? with
  |none=>grind
  |some b=>
   rw[p]at l;cases l;have E:=(A5.1 p).1
   have Q:(((L.map Value.string).toArray.toList.drop (i*Ty.str.sz)).take Ty.str.sz)=[.string b]:=by
    show((L.map Value.string).drop (i*1)).take 1=_;rw[CM,BN (by simpa using E)];simp[(A5.1 p).2]
   rw[Q];refine⟨by cases b;simp,?_⟩;have Y:=z b (AJ p);have e:b.data.toList.length=b.size:=rfl;grind
 .rw[<-j];show o<(L.map λb=>b.data.toList).length*1<->_;rw[d,CM];exact⟨λh=>.inr ⟨rfl,h⟩,λh=>h.elim (λh=>absurd (B.1 _ _ h) (AA _)) λh=>h.2⟩
theorem AQ7{xs:List DK}{v:Value}(h:VRel w I (.slice .str) xs v):
 (∃a d,v=.slice a 0 d/\xs=[])\/∃b o d,v=.slice (some ⟨b,o,none⟩) xs.length d/\b<w.heap.size/\xs.length<=d/\
  ∀(j:Nat) x,xs[j]?=some x->w.cell? ⟨b,o+j,none⟩=some (.string ⟨x.toArray⟩)/\x.length<=281474976710656:=by
 obtain⟨c,h1,a,d,m,s,J,z⟩:=h;have h1:c=[v]:=h1;rw[h1]at m;have m:v=.slice a xs.length d:=AB.1 m;by_cases y:xs=[]
 .grind
 .right;cases a with
  |none=>grind
  |some p=>
   have⟨e,A⟩:=z p rfl;obtain⟨b,o,G⟩:=p;have e:(⟨b,o,G⟩:Addr).spot=none:=e λh0=>y (AI (Nat.le_zero.1 (h0▸s.1)));cases e
   have key:∀(j:Nat) x,xs[j]?=some x->w.cell? ⟨b,o+j,none⟩=some (.string ⟨x.toArray⟩)/\x.length<=281474976710656:=by
    intro j x B;have⟨H,⟨k1,C⟩,D,E⟩:=A j x B;have:=(C 0 Nat.one_pos).2;rw[D]at this;exact⟨oc,E⟩
   have l:0<xs.length:=List.length_pos_iff.2 y;exact⟨b,o,d,m,bX (key 0 xs[0] (A1 l)).1,s.1,key⟩
def AQ8:FSpec:=⟨[.val (.slice .str),.val .str],[.val .str],strings_Join,false⟩
theorem b_:FF Go.Proofs.Tryz.prog 178/\FunOK Go.Proofs.Tryz.prog 178 AQ8:=by
 refine⟨entered Tryz.func178 oe oe,FunOK.flat1 (t:=.str) rfl rfl (λd=>by rcases d with _|⟨_,_|⟨_,_⟩⟩<;>rfl) λw I v d bs N D r C=>?_⟩;obtain⟨rfl,x,y,rfl,J,L⟩:=QP D;obtain⟨rfl,h1⟩:=in_str L;have⟨⟨M,G⟩,C⟩:=ON C;cases C;obtain⟨s,sep⟩:List DK×DK:=v;have G:(Lib.join s sep).length<=140737488355328:=G;have l:(Lib.join s sep).length<=281474976710656:=oa
 rcases AQ7 J with⟨a,m,rfl,p⟩|⟨b,o,m,rfl,K,H,z⟩
 .have p:s=[]:=p;subst p;have e:Lib.join [] sep=[]:=by simp[Lib.join,List.intercalate]
  refine⟨rfl,.string ⟨(Lib.join [] sep).toArray⟩,λw' I'=>NE (O8 l),?_⟩;rw[e];exact(uf a m ⟨sep.toArray⟩ w).mono λe w' ⟨A,E⟩=>⟨A,UC E⟩
 .refine⟨rfl,.string ⟨(Lib.join s sep).toArray⟩,λw' I'=>NE (O8 l),?_⟩
  have B:(s.map λx=>(⟨x.toArray⟩:ByteArray)).map (λb=>b.data.toList)=s:=by
   rw[List.map_map];exact List.map_id _
  have:=uq b o m (s.map λx=>⟨x.toArray⟩) ⟨sep.toArray⟩ w (λj x J=>by
   grind) K oc oc oc
  rw[B,AY]at this;exact this.mono λe w' ⟨A,E⟩=>⟨A,E,λh=>oq⟩
theorem After.toBelow{gv:Nat->Prop}{I':Im}(h:After gv w I w' I')(d:∀b,¬gv b):Below w.heap.size w w':=
 ⟨h.os,h.tape,h.output,h.size,λb a=>h.heap b a (d b)⟩
theorem AQ9(a:HQ w I)(d:Below w.heap.size w w'):Ext w I w' I/\HQ w' I:=by
 have e:Ext w I w' I:=⟨λb o h=>⟨h,by simp only[World.cell?,d.block b (a.1 b o h)]⟩,λb h=>⟨h,d.block b (a.2.1 b h)⟩⟩;exact⟨e,λb o h=>AO (a.1 b o h) d.size,λb h=>AO (a.2.1 b h) d.size,a.2.2.ext e⟩
theorem AQA{g:Nat}(h:FF P g):∀a w,(callFunc g a).run P w=.ok (.enter g a) w:=by
 obtain⟨fn,c,h1,b,d⟩:=h;simp_all[callFunc]
theorem AQB(p:Nat->Bool)(s:ByteArray):∀x∈Lib.goFieldsP p s,x.size<=s.size:=by
 intro x h;obtain⟨q,_,rfl⟩:=CD.1 h;rw[CE];omega
def AQC:FSpec:=⟨[.val .str,.hof false (.int .i32) .bool],[.val (.slice .str)],VJ,false⟩
theorem AQD:FF Go.Proofs.Tryz.prog 343/\FunOK Go.Proofs.Tryz.prog 343 AQC:=by
 refine⟨entered Tryz.func343 oe oe,FunOK.given λw I v K bs T H r m=>?_⟩;obtain⟨Y,vs,b1,b2,rfl,rfl,⟨d,rfl⟩,Z,rfl,rfl,g,M,B,p,hof⟩:=H;obtain⟨rfl,h0⟩:=in_str d;obtain rfl:=AB.1 B;obtain⟨s,F⟩:DK×(Int->Option Bool):=v;have m:VJ (s,F)=some r:=m;unfold VJ at m;have⟨⟨h1,Q,h3⟩,m⟩:=ON m;cases m
 have U:PredGrows Tryz.prog g M (λr=>(F (r:Int)).getD false) w:=by
  intro W x d j;have⟨D,E⟩:=AQ9 T j;have⟨b,a⟩:=Q x d;have a:F (x:Int)=some b:=a;have:=hof W I D E (x:Int) [.int .i32 x] ⟨_,rfl,out_int ⟨by show(-2147483648:Int)<=_;omega,by show _<=(2147483647:Int);omega⟩⟩ b a;refine this.mono λe X ⟨rv,I'',k1,L,J,_⟩=>?_;have G:=APd J;subst G;show e=.returned (.bool ((F (x:Int)).getD false))/\_;rw[a];exact⟨k1,After.toBelow L λ_ h=>h⟩
 have:=Any.strings_FieldsFunc_grows wi g M (AQA p) (λr=>(F (r:Int)).getD false) ⟨s.toArray⟩ w (by assumption) U oe oe;refine⟨rfl,this.mono λe w' ⟨A,D,hA,y,C⟩=>?_⟩;obtain⟨_,R|⟨O,z,N,k1,L,J,k4,k5,k6,V⟩⟩:=y
 .cases R.1
 .obtain⟨rfl,rfl⟩:A=O/\(Lib.goFieldsP (λr=>(F (r:Int)).getD false) ⟨s.toArray⟩).length=z:=oc
  refine⟨_,[_],λb o=>b=A,D,rfl,rfl,C,(λh=>oq),?_,NE ?_⟩
  .grind
  .have:=AQ3 (P:=Tryz.prog) (I:=I) (X:=λb o=>b=A) (xs:=(Lib.goFieldsP (λr=>(F (r:Int)).getD false) ⟨s.toArray⟩).map λb=>b.data.toList)
    (cap:=(Lib.goFieldsP (λr=>(F (r:Int)).getD false) ⟨s.toArray⟩).length) J oh oc ?_ ?_ (λo _=>rfl)
   .grind
   .intro i x d;rw[AZ]at d;cases j:(Lib.goFieldsP (λr=>(F (r:Int)).getD false) ⟨s.toArray⟩)[i]? with
    |none=>grind
    |some b=>
     rw[j]at d;cases d;have hi:=(A5.1 j).1;have:=congrArg (λl=>l[i]?) V;simp only[B3,AZ,j]at this;simp_all
   .intro x d;obtain⟨b,j,rfl⟩:=CD.1 d;have:=AQB _ ⟨s.toArray⟩ b j;rw[OH]at this;have e:b.data.toList.length=b.size:=rfl;rw[e];exact AM this h0
theorem A8O(h:Lay Tryz.prog (.agg GO) el):el=327:=by
 have a:((List.range Tryz.prog.types.size).all λi=>!(layB Tryz.prog (.agg GO)).1 i||Nat.beq i 327)=true:=oe
 have b:el<Tryz.prog.types.size:=AF1 h.inf rfl;have h1:=BR.1 a el (CS.2 b);have d:(layB Tryz.prog (.agg GO)).1 el=true:=h;simp_all
theorem AQE(b:Nat)(w:World)(h0:w.cell? ⟨b,0,none⟩=some (.pointer (some ⟨b,0,none⟩))):
 Calls Tryz.prog 227 #[.pointer (some ⟨b,0,none⟩)] w λe w'=>e=.returned (.tuple #[])/\w'=w:=by
 have m:Tryz.prog.follows .mixedOrders=true:=oe
 have p:=Tryz.underlying327;have d:=Tryz.isAgg327;have B:=Tryz.sizeOf327;have z:=Tryz.zeroValue327;have x:=run_underlying Tryz.underlying327;have l:=Tryz.underlying324;have a:=Tryz.isAgg324;have A:=Tryz.sizeOf324;have y:=Tryz.zeroValue324;have s:=run_underlying Tryz.underlying324;have D:=Tryz.underlying4;have C:=Tryz.isAgg4;have H:=Tryz.sizeOf4;have G:=Tryz.zeroValue4;have E:=run_underlying Tryz.underlying4;have⟨j,h,_⟩:=Option.map_eq_some_iff.1 (show(Tryz.prog.info? 327).map (·.size)=some 2 by kernel_rfl)
 go_enter Tryz.func227,Tryz.ntmps227
 go_wp2
 rw[Lib.run_neq_ptr_same w _ Tryz.underlying324 h]
 go_wp2
 go_end0
 simp
theorem AQF(b:Nat)(w:World)(h0:w.cell? ⟨b,0,none⟩=some (.pointer none))(h:w.shape? b=some (327,2))(B:w.frozen? ⟨b,0,none⟩=false):
 Calls Tryz.prog 227 #[.pointer (some ⟨b,0,none⟩)] w λe w'=>e=.returned (.tuple #[])/\w'=w.setCell ⟨b,0,none⟩ (.pointer (some ⟨b,0,none⟩)):=by
 have⟨j,l,a⟩:=Option.map_eq_some_iff.1 (show(Tryz.prog.info? 327).map (·.size)=some 2 by kernel_rfl);have m:Tryz.prog.follows .mixedOrders=true:=oe
 have D:=Tryz.underlying327;have A:=Tryz.isAgg327;have K:=Tryz.sizeOf327;have I:=Tryz.zeroValue327;have G:=run_underlying Tryz.underlying327;have C:=Tryz.underlying324;have y:=Tryz.isAgg324;have J:=Tryz.sizeOf324;have H:=Tryz.zeroValue324;have E:=run_underlying Tryz.underlying324;have M:=Tryz.underlying4;have L:=Tryz.isAgg4;have Q:=Tryz.sizeOf4;have O:=Tryz.zeroValue4;have N:=run_underlying Tryz.underlying4;have p:=Tryz.underlying440;have d:=Tryz.isAgg440;have z:=Tryz.sizeOf440;have x:=Tryz.zeroValue440;have s:=run_underlying Tryz.underlying440
 go_enter Tryz.func227,Tryz.ntmps227
 go_wp2
 rw[Lib.run_to_unsafe w ⟨b,0,none⟩ Tryz.underlying324 Tryz.underlying440 l (by rw[a];decide) h (Nat.zero_lt_succ 1)];simp only[Result.andThen];rw[Oper.upon_value]
 go_wp2
 rw[run_callFunc_extern Tryz.func276 oe oe oe (e:=Extern.AbiNoEscape.same) oe];rw[Lib.run_noEscape];simp only[Result.andThen];rw[Oper.upon_value]
 go_wp2
 rw[Lib.run_from_unsafe w ⟨b,0,none⟩ Tryz.underlying440 Tryz.underlying324 l h oe];simp only[Result.andThen];rw[Oper.upon_value]
 go_wp2
 go_end0
 simp
theorem A8P{p q:Value}{fz:Nat×Nat}(a:w.heap[b]?=some (.cells cells el fz))(h:cells.toList=[p,q]):
 w.cell? ⟨b,0,none⟩=some p/\w.cell? ⟨b,1,none⟩=some q:=by
 have:cells= #[p,q]:=by apply B_;exact h
 grind[World.cell?]
theorem AQG(b g cap:Nat)(l:List UInt8)(w:World)(a:Array Value)(fz:Nat×Nat)(N:w.cell? ⟨b,1,none⟩=some (.slice (some ⟨g,0,none⟩) l.length cap))(h0:l≠[])
 (y:w.heap[g]?=some (.cells a 5 fz))(m:l.length<=cap)(s:a.size=cap)(p:l.length<=281474976710656)(B:∀(j:Nat) x,l[j]?=some x->a[j]?=some (.int .u8 x.toNat)):
 Calls Tryz.prog 182 #[.pointer (some ⟨b,0,none⟩)] w λe w'=>e=.returned (.string ⟨l.toArray⟩)/\w'=w.drew.freeze ⟨g,0,none⟩ l.length:=by
 have Q:l.length≠0:=by simpa using h0
 have c1:w.drew.cell? ⟨b,1,none⟩=some (.slice (some ⟨g,0,none⟩) l.length cap):=N
 have K:(Builtin.unsafeSliceData_ #[325] 389 #[.slice (some ⟨g,0,none⟩) l.length cap]).run Tryz.prog w.drew=.ok (.pointer (some ⟨g,0,none⟩)) w.drew:=
  Lib.run_unsafeSliceData_row _ _ _ _ _ _ oa
 have L:(Builtin.unsafeString_ #[389,3] 9 #[.pointer (some ⟨g,0,none⟩),.int .i64 l.length]).run Tryz.prog w.drew=.ok (.string ⟨l.toArray⟩) (w.drew.freeze ⟨g,0,none⟩ l.length):=by
  refine Lib.run_unsafeString_row w.drew 389 3 9 5 Tryz.underlying389 oe g a.size (by have d:w.drew.heap[g]?=some (.cells a 5 fz):=y;simp[World.shape?,d]) l h0 oa oa ?_;intro j x O;have d:w.drew.heap[g]?=some (.cells a 5 fz):=y;have M:(⟨g,0,none⟩:Addr).add j=⟨g,j,none⟩:=by simp[Addr.add];exact λh=>h.symm
  rw[M];simp only[World.cell?,d,B j x O];rfl
 clear B s y m p h0;have z:Tryz.prog.follows .mixedOrders=true:=oe
 have U:=Tryz.underlying327;have J:=Tryz.isAgg327;have h5:=Tryz.sizeOf327;have h2:=Tryz.zeroValue327;have X:=run_underlying Tryz.underlying327;have T:=Tryz.underlying324;have I:=Tryz.isAgg324;have h4:=Tryz.sizeOf324;have Z:=Tryz.zeroValue324;have W:=run_underlying Tryz.underlying324;have R:=Tryz.underlying325;have H:=Tryz.isAgg325;have h3:=Tryz.sizeOf325;have Y:=Tryz.zeroValue325;have V:=run_underlying Tryz.underlying325;have C:=Tryz.underlying389;have A:=Tryz.isAgg389;have G:=Tryz.sizeOf389;have E:=Tryz.zeroValue389;have D:=run_underlying Tryz.underlying389;have t3:=Tryz.underlying3;have a3:=Tryz.isAgg3;have z3:=Tryz.sizeOf3;have v3:=Tryz.zeroValue3;have u3:=run_underlying Tryz.underlying3;have t9:=Tryz.underlying9;have a9:=Tryz.isAgg9;have z9:=Tryz.sizeOf9;have v9:=Tryz.zeroValue9;have u9:=run_underlying Tryz.underlying9;have t5:=Tryz.underlying5;have a5:=Tryz.isAgg5;have z5:=Tryz.sizeOf5;have v5:=Tryz.zeroValue5;have u5:=run_underlying Tryz.underlying5
 go_enter Tryz.func182,Tryz.ntmps182
 go_wp2
 go_region_o
 all_goals (go_wp2;go_ret;simp)
theorem AQH(b g:Nat)(w:World)(a:Array Value)(fz:Nat×Nat)(h:w.cell? ⟨b,1,none⟩=some (.slice (some ⟨g,0,none⟩) 0 0))(H:w.heap[g]?=some (.cells a 5 fz)):
 Calls Tryz.prog 182 #[.pointer (some ⟨b,0,none⟩)] w λe w'=>e=.returned (.string ⟨#[]⟩)/\Below w.heap.size w w':=by
 have G:∀(W:World) (q:Option Addr),(Builtin.unsafeString_ #[389,3] 9 #[.pointer q,.int .i64 0]).run Tryz.prog W=.ok (.string .empty) W:=λW q=>Lib.run_unsafeString_none W _ _ _ q;have j:=bX h;have c1:w.drew.cell? ⟨b,1,none⟩=some (.slice (some ⟨g,0,none⟩) 0 0):=h
 have E:(Builtin.unsafeSliceData_ #[325] 389 #[.slice (some ⟨g,0,none⟩) 0 0]).run Tryz.prog w.drew=.ok (.pointer (some ⟨w.drew.heap.size,0,none⟩)) (w.drew.alloc (.view ⟨g,0,none⟩ 5)):=
  Lib.run_unsafeSliceData_zero w.drew _ _ 5 Tryz.underlying389 ⟨g,0,none⟩ 0 (5,a.size) (by have d:w.drew.heap[g]?=some (.cells a 5 fz):=H;simp[World.shape?,d])
 have p:Below w.heap.size w (w.drew.alloc (.view ⟨g,0,none⟩ 5)):=(Below.drew (Below.refl _ w)).alloc (AD _) _;have D:(w.drew.alloc (.view ⟨g,0,none⟩ 5)).cell? ⟨b,1,none⟩=some (.slice (some ⟨g,0,none⟩) 0 0):=(p.cell j).trans h;have c3:(w.alloc (.view ⟨g,0,none⟩ 5)).drew.cell? ⟨b,1,none⟩=some (.slice (some ⟨g,0,none⟩) 0 0):=D;have m:Tryz.prog.follows .mixedOrders=true:=oe
 have K:=Tryz.underlying327;have C:=Tryz.isAgg327;have V:=Tryz.sizeOf327;have R:=Tryz.zeroValue327;have N:=run_underlying Tryz.underlying327;have J:=Tryz.underlying324;have B:=Tryz.isAgg324;have U:=Tryz.sizeOf324;have Q:=Tryz.zeroValue324;have M:=run_underlying Tryz.underlying324;have I:=Tryz.underlying325;have A:=Tryz.isAgg325;have T:=Tryz.sizeOf325;have O:=Tryz.zeroValue325;have L:=run_underlying Tryz.underlying325;have s:=Tryz.underlying389;have l:=Tryz.isAgg389;have z:=Tryz.sizeOf389;have y:=Tryz.zeroValue389;have x:=run_underlying Tryz.underlying389;have t3:=Tryz.underlying3;have X:=Tryz.isAgg3;have z3:=Tryz.sizeOf3;have v3:=Tryz.zeroValue3;have u3:=run_underlying Tryz.underlying3;have t9:=Tryz.underlying9;have Z:=Tryz.isAgg9;have z9:=Tryz.sizeOf9;have v9:=Tryz.zeroValue9;have u9:=run_underlying Tryz.underlying9;have t5:=Tryz.underlying5;have Y:=Tryz.isAgg5;have z5:=Tryz.sizeOf5;have v5:=Tryz.zeroValue5;have u5:=run_underlying Tryz.underlying5
 go_enter Tryz.func182,Tryz.ntmps182
 go_wp2
 go_region_o
 all_goals (go_wp2;go_ret;exact⟨rfl,p⟩)
theorem After.only(a:HQ w I){bs:List Nat}(s:b∈bs)(z:∀o,¬I.cell b o)(p:¬I.obj b)(l:∀k,k≠b->w'.heap[k]?=w.heap[k]?)(j:w'.heap.size=w.heap.size)
 (d:w'.os=w.os)(y:w'.tape=w.tape)(x:w'.output=w.output):After (·∈bs) w I w' I:=by
 have m:Ext w I w' I:=⟨λk o h=>⟨h,by grind[World.cell?]⟩,λk h=>⟨h,l k (λe=>p (e▸h))⟩⟩;exact⟨m,λk _ hk=>l k (λe=>hk (e▸s)),Nat.le_of_eq j.symm,λ_ _ h=>.inl h,λ_ h=>.inl h,λk o h=>j▸a.1 k o h,λk h=>j▸a.2.1 k h,d,y,x,a.2.2.ext m⟩
theorem AQI{o:Nat}{v:Value}{k:Nat}(h:k≠b):(w.setCell ⟨b,o,none⟩ v).heap[k]?=w.heap[k]?:=Below.heap_setCell w ⟨b,o,none⟩ v k h
def AQJ:FSpec:=⟨[.bld 5 false],[],fJ,false⟩
theorem A8Q:FF Go.Proofs.Tryz.prog 227/\FunOK Go.Proofs.Tryz.prog 227 AQJ:=by
 refine⟨entered Tryz.func227 oe oe,λw I v J bs L s m r T=>?_⟩;cases T;obtain⟨v1,rfl,b,cells,el,p,q,d,N,rfl,h1,a,x,R,A,B,y⟩:=s;obtain rfl:=AB.1 N;obtain rfl:=A8O a;have⟨c0,c1⟩:=A8P h1 x;have j:=AW.1 m;rcases R with rfl|rfl
 .have s:w.shape? b=some (327,2):=by
   have:cells.size=2:=by rw[<-BD,x];rfl
   simp[World.shape?,h1,this]
  refine(AQF b w c0 s (by simp[World.frozen?,h1])).mono λe w' ⟨E,l⟩=>?_;have K:∀k,k≠b->w'.heap[k]?=w.heap[k]?:=λk hk=>by rw[l];exact AQI hk
  have U:w'.heap.size=w.heap.size:=by rw[l];simp[World.setCell]
  have D:w'.heap[b]?=some (.cells #[.pointer (some ⟨b,0,none⟩),q] 327 (0,0)):=by
   have Q:cells= #[.pointer none,q]:=by apply B_;exact x
   subst Q;rw[l];simp only[World.setCell,Array.getElem?_modify,h1];simp
  refine⟨_,[],I,b::d,E,rfl,rfl,After.only L AE A B K U (by rw[l];rfl) (by rw[l];rfl) (by rw[l];rfl),?_,m,λb C=>.inl C,λh=>oq⟩;refine⟨_,rfl,b,_,327,_,q,d,rfl,rfl,D,a,rfl,.inr rfl,A,B,?_⟩;rcases y with y|⟨g,z,O,k1,M,V,⟨fz,W,H⟩,X,k6,Y,Z⟩
  .exact .inl y
  .have G:g≠b:=by rw[M]at j;intro e;exact j.1 oc
   refine .inr ⟨g,z,O,k1,M,V,⟨fz,(K g G).trans W,H⟩,X,?_,Y,Z⟩;assumption
 .refine(AQE b w c0).mono λe w' ⟨E,l⟩=>?_;subst l;refine⟨_,[],I,b::d,E,rfl,rfl,After.refl L,?_,m,λb C=>.inl C,λh=>oq⟩;exact⟨_,rfl,b,cells,327,_,q,d,rfl,rfl,h1,a,x,.inr rfl,A,B,y⟩
theorem AQK{k:Nat}(h:k≠b):(w.freeze ⟨b,0,none⟩ n).heap[k]?=w.heap[k]?:=by
 unfold World.freeze;grind
theorem AQL{a:Addr}:(w.freeze a n).heap.size=w.heap.size:=by
 grind[World.freeze]
theorem AQM{a:Addr}:(w.freeze a n).os=w.os/\(w.freeze a n).tape=w.tape/\(w.freeze a n).output=w.output:=by
 unfold World.freeze;grind
theorem AQN{xs:List Int}(h:∀x∈xs,FY .u8 x):xs=FX (IM xs):=by
 unfold FX IM;rw[List.map_map];conv=>lhs;rw[<-List.map_id xs]
 refine List.map_congr_left λx a=>?_;have h1:0<=x/\x<=255:=h x a;grind[UInt8.ofNat,UInt8.toNat_ofNat']
def AQO:FSpec:=⟨[.bld 5 true],[.val .str],PZ,false⟩
theorem UD:FF Go.Proofs.Tryz.prog 182/\FunOK Go.Proofs.Tryz.prog 182 AQO:=by
 refine⟨entered Tryz.func182 oe oe,λw I v U bs Y M L r hr=>?_⟩;cases hr;obtain⟨v1,rfl,b,cells,el,p,q,B,C,rfl,h1,E,V,hp,h4,h5,h6⟩:=M;obtain rfl:=AB.1 C;obtain rfl:=A8O E;have⟨c0,c1⟩:=A8P h1 V;have Z:=AW.1 L;have z:cells= #[p,q]:=by apply B_;exact V
 subst z
 have a:∀(w':World) (e:Ending),(show List Int from v)=[]->e=.returned (.string ⟨#[]⟩)->Below w.heap.size w w'->∃rv T I' m,e=.returned rv/\T.length=1/\M9 T rv/\After (·∈b::B) w I w' I'/\
  ShL Tryz.prog w' I' [.val .str] (IM v) (T++[]) m/\m.Nodup/\(∀k∈m,k∈b::B\/w.heap.size<=k)/\(false=true->w.drawn<=w'.drawn):=by
  intro w' e N A y;refine⟨_,[_],imNew I noX,[],A,rfl,rfl,(After.below Y y noX_ok).mono (λk hk=>by cases hk),?_,.nil,(λk hk=>by cases hk),λh=>oq⟩;have:IM v=[]:=by have N:v=([]:List Int):=N;rw[N];rfl
  rw[this];exact NE (O8 (x:=[]) oi)
 rcases h6 with⟨rfl,k1,k2⟩|⟨g,s,D,rfl,k2,J,⟨fz,k4,h3⟩,R,k6,k7,k8⟩
 .exact(Any.Builder_String_nil vr ub w.heap.size b p w h1).mono λe w' ⟨A,y⟩=>a w' e k1 A y
 .obtain⟨d,Q⟩:∃d:List Int,d=v:=⟨v,rfl⟩;subst Q;have J:IN d.length s:=J;have R:D.size=s:=by rw[R];exact CM _
  by_cases h0:d=[]
  .subst h0;by_cases W:s=0
   .subst W;exact(AQH b g w D fz c1 k4).mono λe w' ⟨A,y⟩=>a w' e rfl A y
   .exact(Any.Builder_String_room vr ub w.heap.size b g s p w W h1).mono λe w' ⟨A,y⟩=>a w' e rfl A y
  .have G:∀(j:Nat) x,d[j]?=some x->D[j]?=some (.int .u8 x)/\FY .u8 x:=by
    intro j x O;have⟨C,e2⟩:=k6 j x O;refine⟨?_,e2⟩;have C:((D.toList.drop (j*1)).take 1)=[.int .u8 x]:=C;have:=congrArg (λl=>l[0]?) C;simpa using this
   have hk:∀x∈d,FY .u8 x:=λx O=>let ⟨j,X⟩:=BL O;(G j x X).2
   have y:d=FX (IM d):=AQN hk;have K:(IM d).length=d.length:=by simp[IM]
   refine(AQG b g s (IM d) w D fz oc (λe=>h0 (by rw[y,e];rfl)) k4 (by rw[K];exact J.1) R (by rw[K];exact J.2) (λj x X=>?_)).mono λe w' ⟨A,H⟩=>?_
   .grind[FX]
   .obtain⟨o1,o2,o3⟩:=AQM (w:=w.drew) (a:=⟨g,0,none⟩) (n:=(IM d).length);refine⟨_,[_],I,[],A,rfl,rfl,After.only Y (b:=g) (by rw[k2];simp) k7 k8 (λk hk=>by rw[H];exact AQK hk) (by rw[H];exact AQL) (by rw[H];exact o1) (by rw[H];exact o2) (by rw[H];exact o3),?_,.nil,(λk hk=>by cases hk),λh=>oq⟩;exact NE (O8 (by rw[K];exact J.2))
variable{α:Type}{cs cells:Array Value}{el b:Nat}{fz:Nat×Nat}{os:Array Go.Obj}{w:World}{xs:List Int}
variable [Pins]
open Go.Sort Go.Shelf
theorem AQP{P:Program}{g:Nat}(h:FF P g):∀a w,(callFunc g a).run P w=.ok (.enter g a) w:=by
 obtain⟨fn,c,h1,b,d⟩:=h;simp_all[callFunc]
theorem A8R [Inhabited α](enc:α->Value)(w:World)(b off:Nat)(d:Array α)(k:Nat)(h:k≠b):(putRow enc w b off d).heap[k]?=w.heap[k]?:=by
 simp only[putRow,mapBlock,Array.getElem?_modify];grind
theorem A8S [Inhabited α](enc:α->Value)(w:World)(b off:Nat)(d:Array α){el:TypeId}(h:w.heap[b]?=some (.cells cs el fz)):
 (putRow enc w b off d).heap[b]?=some (.cells (putCells enc off d cs) el fz):=by
 simp_all[putRow,mapBlock,Array.getElem?_modify,onCells]
theorem pS(w:World)(os:Array Go.Obj)(k:Nat)(h:k<w.heap.size):(grow w os).heap[k]?=w.heap[k]?:=by
 grind[grow,Array.getElem?_append_left]
section
variable{P:Program}{w:World}{I:Im}
theorem A8T [Inhabited α]{enc:α->List Value}{k:Nat}{n:Nat}{D:Array α}{el:TypeId}(d:w.heap[b]?=some (.cells cs el fz)):
 (sortWorldK enc k w b 0 n D os).heap[b]?=some (.cells (putCells id 0 (flatK enc k D) cs) el fz)/\(∀j,j≠b->j<w.heap.size->(sortWorldK enc k w b 0 n D os).heap[j]?=w.heap[j]?)/\
 w.heap.size<=(sortWorldK enc k w b 0 n D os).heap.size/\(sortWorldK enc k w b 0 n D os).drawn=w.drawn+n:=by
 have a:b<w.heap.size:=(B2.1 d).1;unfold sortWorldK putRowK;refine⟨?_,λj e h=>?_,?_,rfl⟩
 .rw[pS _ _ _ (by simpa using a)];exact A8S id _ b 0 _ d
 .rw[pS _ _ _ (by simpa using h)];exact A8R id _ b 0 _ j e
 .simp
theorem A8U [Inhabited α]{enc:α->List Value}{k:Nat}{n:Nat}{D:Array α}{el:TypeId}(x:w.heap[b]?=some (.cells cs el fz))
 (a:HQ w I)(p:∀o,¬I.cell b o)(s:¬I.obj b):Ext w I (sortWorldK enc k w b 0 n D os) I/\HQ (sortWorldK enc k w b 0 n D os) I:=by
 have⟨h1,d,l,y⟩:=A8T (enc:=enc) (k:=k) (n:=n) (D:=D) (os:=os) x;have m:Ext w I (sortWorldK enc k w b 0 n D os) I:=⟨λj o h=>⟨h,by simp only[World.cell?,d j (λe=>p o (e▸h)) (a.1 j o h)]⟩,λj h=>⟨h,d j (λe=>s (e▸h)) (a.2.1 j h)⟩⟩;exact⟨m,λj o h=>AO (a.1 j o h) l,λj h=>AO (a.2.1 j h) l,a.2.2.ext m⟩
theorem pT{ρ:Ren}{f:Nat}{p:Ty}(L:SlLaysF0.n6 P ρ)(hf:ρ.f 6=f)(aE:∀w,(isAgg (ρ.t 24)).run P w=.ok true w)(zE:∀w,(Go.sizeOf (ρ.t 24)).run P w=.ok p.sz w)(hp:0<p.sz):
 FunOK P f ⟨[.io el (.agg p),.hof true (.prod (.agg p) (.agg p)) (.int .i64)],[],λv=>MA v.1 v.2,true⟩:=by
 subst hf;intro w I v z1 bs hm y5 h6 r C;obtain⟨v1,vs,b1,b2,rfl,rfl,h1,v2,rfl,rfl,g,lb,y7,h3,hof⟩:=y5;obtain rfl:=AB.1 y7;obtain⟨xs,F⟩:List p.T×(p.T×p.T->Option Int):=v;have C:MA xs F=some r:=C
 have H:∀(a:Option Addr) (s:Nat),v1=.slice a 0 s->xs=[]->
  Calls P (ρ.f 6) #[v1,.func (.func g) #[] lb] w λe w'=>∃rv vs I' M,e=.returned rv/\vs.length=0/\M9 vs rv/\After (·∈b1++[]) w I w' I'/\
   ShL P w' I' [.io el (.agg p)] r (vs++[v1]) M/\M.Nodup/\(∀b∈M,b∈b1++[]\/w.heap.size<=b)/\(true=true->w.drawn<=w'.drawn):=by
  intro a s hv y8;subst y8
  have C:r=([]:List p.T):=by
   have:MA ([]:List p.T) F=some []:=rfl;rw[this]at C;cases C;rfl
  subst hv;refine(AnyF.slices_SortFunc_none L a s _ w).mono λe w' ⟨he,R⟩=>?_;subst R;rw[CU]at h6 ⊢;refine⟨_,[],I,b1,he,rfl,rfl,After.refl hm,⟨_,rfl,?_⟩,h6,λb N=>.inl N,λ_=>AD _⟩;rw[C];exact h1
 rcases h1 with⟨T,e2,rfl⟩|⟨b,s,cells,T,rfl,hl,⟨fz,N,z9⟩,O,h8,hI,_,hO⟩
 .exact H none 0 (AB.1 T) e2
 .have T:v1=.slice (some ⟨b,0,none⟩) xs.length s:=AB.1 T;by_cases h0:0<xs.length
  .subst T;unfold MA at C;rw[dif_pos h0]at C;have⟨⟨y1,y2,y3,y4⟩,C⟩:=ON C;have C:(L0 xs F h0).toList.map xs.get=r:=A2 C
   letI:Inhabited (Fin xs.length):=⟨⟨0,h0⟩⟩
   let k:=p.sz
   have O:cells.size=s*k:=O;have z2:xs.length<=s:=hl.1
   have B:∀i,i<xs.length->i*k+k<=cells.size:=by
    intro i hi;have:(i+1)*k<=s*k:=AR k oa;rw[O];rw[CL]at this;omega
   let l:Fin xs.length->List Value:=λi=>(cells.toList.drop (i.val*k)).take k
   have D:∀i:Fin xs.length,Rel w I (.agg p) (xs.get i) (l i):=λi=>h8 i.val (xs.get i) (A1 i.isLt)
   have hk:∀x,(l x).length=k:=by
    intro x;have:=B x.val x.isLt;simp only[l,BQ,C2,BD];omega
   have h7:∀x,∀v∈l x,v.oneCell'=true:=λx=>(D x).oneCell
   have h4:∀(i:Fin xs.length) (c:Nat),c<k->(l i)[c]! =cells[i.val*k+c]!:=by
    intro i c U;have h2:=B i.val i.isLt;have Q:i.val*k+c<cells.size:=oa
    rw[getElem!_pos (l i) c oc,getElem!_pos cells _ Q];simp[l]
   have X:SWO (ltOf (NR xs F)):=⟨λx=>y2 x,λx y z=>y3 x y z,λx y z=>y4 x y z⟩
   have z3:CmpLays P g lb l k (NR xs F) b 0 xs.length w:=by
    intro m os dk _ x y;have⟨V,y0⟩:=A8U (enc:=l) (k:=k) (n:=m) (D:=dk) (os:=os) N hm (hI rfl) hO;have⟨c,U⟩:=Option.isSome_iff_exists.1 (y1 x y)
    have:=hof _ I V y0 (xs.get x,xs.get y) [.agg (l x).toArray,.agg (l y).toArray]
     ⟨_,_,rfl,⟨l x,rfl,(D x).ext V⟩,_,rfl,l y,rfl,(D y).ext V⟩ c U
    refine this.mono λe z0 ⟨rv,I'',q1,q2,⟨c',q3,q4,_⟩,q5⟩=>?_;have q3:c'=[rv]:=q3;rw[q3]at q4;have q4:rv=.int .i64 c:=AB.1 q4;refine⟨?_,?_⟩
    .grind[NR]
    .obtain⟨⟨d,y9⟩,R⟩:=regrown_of_below (w:=sortWorldK l k w b 0 m dk os) (w':=z0) ⟨q2.os,q2.tape,q2.output,q2.size,λj A=>q2.heap j A λh=>h⟩;have hd:=q5 rfl;refine⟨d-(sortWorldK l k w b 0 m dk os).drawn,y9,?_⟩;grind[grow,redrawn,World.drewN]
   have J:(Array.ofFn (id:Fin xs.length->Fin xs.length)).size=xs.length:=oh
   have x0:∀(j:Nat) (A:j<xs.length),(Array.ofFn (id:Fin xs.length->Fin xs.length))[j]! =⟨j,A⟩:=by
    intro j A;rw[getElem!_pos _ j (by simpa using A)];simp
   have x3:∀j,j<xs.length*k->j / k<xs.length/\j % k<k/\j / k*k+j % k=j:=λj A=>
    ⟨(Nat.div_lt_iff_lt_mul hp).2 A,Nat.mod_lt _ hp,Nat.div_add_mod' j k⟩
   have hH:HoldsK l k w b 0 (Array.ofFn (id:Fin xs.length->Fin xs.length)):=by
    intro j A;rw[size_flatK,J]at A;have⟨d1,d2,d3⟩:=x3 j A;rw[get_flatK _ _ _ _ oc,x0 _ d1,h4 _ _ d2,d3]
    have a0:j<cells.size:=by
     have:=B _ d1;have:j<j / k*k+k:=oa
     omega
    refine⟨?_,?_⟩
    .simp_all[World.cell?,BM,id,getElem!_pos]
    .simp only[World.frozen?,N,BM];grind
   have Y:b<w.heap.size:=(B2.1 N).1;have y6:(Array.ofFn (id:Fin xs.length->Fin xs.length)).size<4611686018427387904:=by rw[J];have:xs.length<=281474976710656:=hl.2;omega
   have G:=AnyQ.slices_SortFunc_eq L k aE zE l hk h7 (NR xs F) X g lb b 0 s (Array.ofFn id) w (AQP h3) oc hH Y y6;have E:=pdq_sorts (ltOf (NR xs F)) X (Array.ofFn (id:Fin xs.length->Fin xs.length)) 0 xs.length (Lib.bitLen xs.length) true true (AQ _) oa (.inl rfl);rw[J]at G;have hD:pdq (ltOf (NR xs F)) (Array.ofFn (id:Fin xs.length->Fin xs.length)) 0 xs.length (Lib.bitLen xs.length) true true=L0 xs F h0:=(A3L xs F h0).symm;rw[hD]at G E;have W:(L0 xs F h0).size=xs.length:=by have:=E.1.1;rw[J]at this;exact this
   refine G.mono λe w' ⟨he,n,os,R⟩=>?_;have⟨a1,a2,a3,a4⟩:=A8T (enc:=l) (k:=k) (n:=n) (D:=L0 xs F h0) (os:=os) N;have⟨x1,x2⟩:=A8U (enc:=l) (k:=k) (n:=n) (D:=L0 xs F h0) (os:=os) N hm (hI rfl) hO;rw[<-R]at a1 a2 a3 a4 x1 x2
   have K:(show List p.T from r).length=xs.length:=by
    have:((L0 xs F h0).toList.map xs.get).length=xs.length:=by rw[AY,BD,W]
    rw[C]at this;exact this
   have a5:(putCells id 0 (flatK l k (L0 xs F h0)) cells).size=cells.size:=by simp[putCells]
   refine⟨_,[],I,[b],he,rfl,rfl,⟨x1,λj A hn=>a2 j (λe=>hn (by rw[e];simp)) A,a3,λ_ _ h=>.inl h,λ_ h=>.inl h,x2.1,x2.2.1,by rw[R];rfl,by rw[R];rfl,by rw[R];rfl,x2.2.2⟩,?_,oh,λj A=>.inl (by simpa using A),λ_=>by rw[a4];omega⟩;refine⟨_,rfl,.inr ⟨b,s,_,?_,rfl,?_,⟨fz,a1,oc⟩,oa,?_,hI,(λh=>oq),hO⟩⟩
   .exact congrArg (λn=>[Value.slice (some ⟨b,0,none⟩) n s]) K.symm
   .have:IN xs.length s:=hl;rw[<-K]at this;exact this
   .intro i y hy;have hy:((L0 xs F h0).toList.map xs.get)[i]?=some y:=by rw[C];exact hy
    rw[AZ]at hy;cases hi:(L0 xs F h0).toList[i]? with
    |none=>grind
    |some q=>
     rw[hi]at hy;cases hy;have x5:i<xs.length:=by have:=(A5.1 hi).1;rw[BD,W]at this;exact this
     have h9:(L0 xs F h0)[i]! =q:=by
      have:=(A5.1 hi).2;rw[getElem!_pos _ i oa];simpa using this
     have x4:((putCells id 0 (flatK l k (L0 xs F h0)) cells).toList.drop (i*k)).take k=l q:=by
      apply BP;intro c;by_cases U:c<k
      .have Q:i*k+c<cells.size:=by have:=B i x5;omega
       have z4:i*k+c<xs.length*k:=by
        have:(i+1)*k<=xs.length*k:=AR k oa;rw[CL]at this;omega
       have Z:(i*k+c) / k=i:=by rw[CZ,Nat.mul_add_div hp,Nat.div_eq_of_lt U];omega
       have h5:(i*k+c) % k=c:=by rw[CZ,Nat.mul_add_mod,Nat.mod_eq_of_lt U]
       rw[B3,if_pos U,B8,B4];simp only[putCells,Array.getElem?_mapIdx];rw[AU Q];simp only[BE];rw[if_pos ⟨AQ _,by simp_all⟩,Nat.sub_zero,get_flatK _ _ _ _ oc,Z,h5,h9];grind
      .rw[CI ot,CI (by rw[hk];omega)]
     rw[show(Ty.agg p).sz=k from rfl,x4];exact(D q).ext x1
  .have V:xs=[]:=AI oa;exact H (some ⟨b,0,none⟩) s (by rw[T,V];rfl) V
end
structure IntAt(w:World)(I:Im)(el:Nat)(xs:List Int)(b o:Nat)(cells:Array Value):Prop where
 row:RowAt w b cells el
 sz:o+xs.length<=cells.size
 rows:∀(j:Nat) (x:Int),xs[j]?=some x->cells[o+j]?=some (.int .i64 x)/\FY .i64 x
 noC:∀o,¬I.cell b o
 noO:¬I.obj b
theorem pU{I:Im}{cs:List Value}:RowsOK w I (.int .i64) xs cs<->∀(j:Nat) (x:Int),xs[j]?=some x->cs[j]?=some (.int .i64 x)/\FY .i64 x:=by
 constructor
 .intro h j x a;have⟨h1,b⟩:=h j x a;have h1:(cs.drop (j*1)).take 1=[.int .i64 x]:=h1;rw[CM]at h1;have d:=congrArg (λl:List Value=>l[0]?) h1;grind
 .intro h j x a;have⟨h1,b⟩:=h j x a;refine⟨?_,b⟩;show(cs.drop (j*1)).take 1=[.int .i64 x];rw[CM];apply BP;grind
theorem IntAt.holds{I:Im}{o:Nat}(h:IntAt w I el xs b o cells):Holds (Value.int .i64) w b o xs.toArray:=by
 intro j a;have a:j<xs.length:=by simpa using a
 have⟨h1,_⟩:=h.rows j _ (A1 a);have e:o+j<cells.size:=(B2.1 h1).1;obtain⟨fz,l,d⟩:=h.row;grind[World.cell?,World.frozen?]
theorem IntAt.put{I:Im}{o:Nat}(h:IntAt w I el xs b o cells)(m:HQ w I)(ys s:List Int)(R:ys.length=xs.length)
 (J:∀(i:Nat) (z:Int),s[i]?=some z->ys[i]?=some z)(M:∀y∈s,FY .i64 y){w':World}{n:Nat}(a:w'=grow (putRow (Value.int .i64) (Sort.ahead w n) b o ys.toArray) os):
 After (·∈[b]) w I w' I/\IntAt w' I el s b o (putCells (Value.int .i64) o ys.toArray cells)/\w.drawn<=w'.drawn:=by
 obtain⟨fz,d,N⟩:=h.row;have E:b<w.heap.size:=(B2.1 d).1
 have L:w'.heap[b]?=some (.cells (putCells (Value.int .i64) o ys.toArray cells) el fz):=by
  rw[a,pS _ _ _ (by simpa using E)];exact A8S (Value.int .i64) _ b o _ d
 have x:∀j,j≠b->j<w.heap.size->w'.heap[j]?=w.heap[j]?:=λj C D=>by
  rw[a,pS _ _ _ (by simpa using D)];exact A8R (Value.int .i64) _ b o _ j C
 have A:w.heap.size<=w'.heap.size:=by rw[a];simp
 have G:(putCells (Value.int .i64) o ys.toArray cells).size=cells.size:=by simp[putCells]
 have K:Ext w I w' I:=⟨λj o l=>⟨l,by simp only[World.cell?,x j (λe=>h.noC o (e▸l)) (m.1 j o l)]⟩,λj p=>⟨p,x j (λe=>h.noO (e▸p)) (m.2.1 j p)⟩⟩
 have U:s.length<=xs.length:=by
  rw[<-R];apply BI;intro H;have h1:=J ys.length (s[ys.length]'(oa)) (A1 _);rw[CI (AD _)]at h1;cases h1
 have T:=h.sz
 refine ⟨⟨K,λj C H=>x j (λe=>H (by rw [e]; simp)) C,A,λ_ _ h=>.inl h,λ_ h=>.inl h,λj o l=>AO (m.1 j o l) A,λj p=>AO (m.2.1 j p) A,by rw [a]; rfl,by rw [a]; rfl,by rw [a]; rfl,m.2.2.ext K⟩,
  ⟨⟨fz,L,oc⟩,by rw[G];omega,?_,h.noC,h.noO⟩,by rw[a];exact Nat.le_add_right _ _⟩
 intro i z hi;have B:=J i z hi;have Q:i<ys.length:=(A5.1 B).1;have O:o+i<cells.size:=oa
 refine⟨?_,M z (AJ hi)⟩;simp_all[getElem!_pos,A5,putCells,Array.getElem?_mapIdx,AU,BE,if_pos,Nat.add_sub_cancel_left]
theorem IntAt.all{I:Im}{o:Nat}(h:IntAt w I el xs b o cells):∀y∈xs,FY .i64 y:=by
 intro y a;obtain⟨i,hi,rfl⟩:=List.getElem_of_mem a;exact(h.rows i _ (A1 hi)).2
def AQQ:FSpec:=⟨[.io 3 (.int .i64)],[],slices_Sort_int,true⟩
theorem AQR:FF Go.Proofs.Tryz.prog 20/\FunOK Go.Proofs.Tryz.prog 20 AQQ:=by
 refine⟨entered Tryz.func20 oe oe,λw I v H bs K G V r p=>?_⟩;obtain⟨a,rfl,R⟩:=G;have p:r=(show List Int from v).mergeSort λx y=>decide (x<=y):=(A2 p).symm;rcases R with⟨B,m,rfl⟩|⟨b,d,cells,B,rfl,h1,J,C,N,O,_,Q⟩
 .obtain rfl:a=.slice none 0 0:=AB.1 B;refine(tq none 0 w).mono λe X ⟨D,A⟩=>?_;subst A;have m:v=([]:List Int):=m;subst m;have:r=([]:List Int):=p.trans List.mergeSort_nil;subst this;exact⟨_,[],I,[],D,rfl,rfl,After.refl K,⟨_,rfl,.inl ⟨rfl,rfl,rfl⟩⟩,AT,λb T=>.inl T,λ_=>AD _⟩
 .obtain rfl:a=.slice (some ⟨b,0,none⟩) (show List Int from v).length d:=AB.1 B;have C:cells.size=d*1:=C;have E:IntAt w I 3 v b 0 cells:=⟨J,by rw[C,CM,BM];exact h1.1,λj x m=>by rw[BM];have:=pU.1 N j x m;grind,O rfl,Q⟩;have l:(show List Int from r).length=(show List Int from v).length:=by rw[p];exact List.length_mergeSort _
  refine(ul b 0 d v w E.holds J.lt (Nat.lt_of_le_of_lt h1.2 oi)).mono λe X ⟨D,n,os,A⟩=>?_;rw[<-p]at A;have⟨L,s,M⟩:=E.put K r r l (λi z h=>h) (λy Y=>E.all y (by grind[List.mergeSort_perm])) A;have W:(putCells (Value.int .i64) 0 (show List Int from r).toArray cells).size=cells.size:=by simp[putCells]
  refine⟨_,[],I,[b],D,rfl,rfl,L,⟨_,rfl,.inr ⟨b,d,_,?_,rfl,?_,s.row,oc,pU.2 λj x m=>?_,λ_=>s.noC,λe=>(by cases e),s.noO⟩⟩,oh,λj U=>.inl U,λ_=>M⟩
  .show [_]=[Value.slice (some ⟨b,0,none⟩) (show List Int from r).length d];rw[l]
  .exact l.symm▸h1
  .have:=s.rows j x m;grind
theorem AQS(xs:List Int):∀y∈Lib.compact xs,y∈xs:=by
 intro y h;unfold Lib.compact Lib.compactUpTo at h;grind
theorem AQT(xs:List Int):(Lib.compact xs).length<=xs.length:=by
 grind[Lib.compact,Lib.compactUpTo,List.length_map,Nat.le_trans,List.length_filter_le]
def AQU:FSpec:=⟨[.dp [3] (.int .i64)],[.dp [3] (.int .i64)],slices_Compact_int,true⟩
theorem A8V:FF Go.Proofs.Tryz.prog 21/\FunOK Go.Proofs.Tryz.prog 21 AQU:=by
 refine⟨entered Tryz.func21 oe oe,λw I v D bs G C T r s=>?_⟩;obtain⟨a,rfl,_,O⟩:=C;have s:r=Lib.compact (show List Int from v):=(A2 s).symm;rcases DV.inv1 (t:=.int .i64) O with⟨rfl,d,rfl⟩|⟨b,o,l,cells,rfl,rfl,h1,K,E,V,L,M,N⟩
 .refine(t4 none 0 w).mono λe U ⟨p,A⟩=>?_;subst A;have d:v=([]:List Int):=d;subst d;have:r=([]:List Int):=by rw[s];rfl
  subst this;exact⟨_,[_],I,[],p,rfl,rfl,After.refl G,⟨_,rfl,oh,⟨_,rfl,rfl,.inr (.inl ⟨oh,rfl,rfl,rfl⟩)⟩⟩,AT,λb Q=>.inl Q,λ_=>AD _⟩
 .have E:o+l*1<=cells.size:=E;have B:IntAt w I 3 v b o cells:=⟨K,AM (Nat.add_le_add_left h1.1 o) oa,λj x d=>by have:=pU.1 N j x d;grind,L,M⟩;refine(ua b o l v w B.holds (AM h1.2 oi) h1.1).mono λe U ⟨p,n,A⟩=>?_;have h:=AQT (show List Int from v);rw[<-s]at p A h
  have⟨H,m,J⟩:=B.put G ((show List Int from r)++List.replicate ((show List Int from v).length-(show List Int from r).length) 0) r oc
   (λi z hi=>oc) (λy W=>B.all y (by grind[AQS])) (n:=n) (os:=#[]) (A.trans (grow_empty _).symm)
  refine⟨_,[_],I,[b],p,rfl,rfl,H,⟨_,rfl,oh,DV.mk1 (t:=.int .i64) ⟨AM h h1.1,AM h h1.2⟩ m.row (by grind[putCells]) trivial m.noC m.noO (pU.2 λj x d=>?_)⟩,oh,λj R=>.inl R,λ_=>J⟩;rw[B8,B4];exact m.rows j x d
end Go.Ev.Pv
namespace Go.Proofs
open Tryz
open Go.Shelf
def vg:Go.Shelf.Ren:=⟨λ|6=>236|15=>39|14=>279|28=>73|29=>74|20=>322|21=>323|22=>324|23=>325|24=>326|25=>327|26=>328|27=>329|46=>361|47=>111|48=>112|49=>362|50=>363|57=>378|n=>n,λ|22=>341|24=>400|25=>403|3=>3|39=>112|0=>0|53=>180|55=>182|4=>4|46=>172|45=>171|50=>177|5=>5|9=>9|66=>247|70=>251|76=>302|77=>303|n=>n,λ|n=>n⟩
theorem wj:Go.Proofs.SlLaysF0.n6 Tryz.prog vg:=by
 constructor;exact oe;exact⟨f236.name,oi,fk func236⟩;exact⟨f279.name,oi,fk func279⟩;exact fk func39;exact⟨f322.name,oi,fk func322⟩;exact⟨f323.name,oi,fk func323⟩;exact⟨f324.name,oi,fk func324⟩;exact⟨f325.name,oi,fk func325⟩;exact⟨f326.name,oi,fk func326⟩;exact⟨f327.name,oi,fk func327⟩;exact⟨f328.name,oi,fk func328⟩;exact⟨f329.name,oi,fk func329⟩;exact fk func73;exact fk func74;exact⟨f361.name,oi,fk func361⟩;exact fk func111;exact fk func112;exact⟨f362.name,oi,fk func362⟩;exact⟨f363.name,oi,fk func363⟩;exact⟨f378.name,oi,fk func378⟩;repeat' first|(intros;kernel_rfl)|decide|constructor
def vj:Go.Shelf.Ren:=⟨λ|6=>93|15=>39|14=>139|28=>73|29=>74|20=>190|21=>191|22=>192|23=>193|24=>194|25=>195|26=>196|27=>197|46=>249|47=>111|48=>112|49=>250|50=>251|57=>304|n=>n,λ|22=>142|24=>145|25=>208|3=>3|39=>112|0=>0|53=>180|55=>182|4=>4|46=>172|45=>171|50=>177|5=>5|9=>9|66=>247|70=>251|76=>302|77=>303|n=>n,λ|n=>n⟩
theorem wn:Go.Proofs.SlLaysF0.n6 Tryz.prog vj:=by
 constructor;exact oe;exact⟨f93.name,oi,fk func93⟩;exact⟨f139.name,oi,fk func139⟩;exact fk func39;exact⟨f190.name,oi,fk func190⟩;exact⟨f191.name,oi,fk func191⟩;exact⟨f192.name,oi,fk func192⟩;exact⟨f193.name,oi,fk func193⟩;exact⟨f194.name,oi,fk func194⟩;exact⟨f195.name,oi,fk func195⟩;exact⟨f196.name,oi,fk func196⟩;exact⟨f197.name,oi,fk func197⟩;exact fk func73;exact fk func74;exact⟨f249.name,oi,fk func249⟩;exact fk func111;exact fk func112;exact⟨f250.name,oi,fk func250⟩;exact⟨f251.name,oi,fk func251⟩;exact⟨f304.name,oi,fk func304⟩;repeat' first|(intros;kernel_rfl)|decide|constructor
def vh:Go.Shelf.Ren:=⟨λ|6=>108|15=>39|14=>162|28=>73|29=>74|20=>210|21=>211|22=>212|23=>213|24=>214|25=>215|26=>216|27=>217|46=>261|47=>111|48=>112|49=>262|50=>263|57=>307|n=>n,λ|22=>77|24=>127|25=>246|3=>3|39=>112|0=>0|53=>180|55=>182|4=>4|46=>172|45=>171|50=>177|5=>5|9=>9|66=>247|70=>251|76=>302|77=>303|n=>n,λ|n=>n⟩
theorem wl:Go.Proofs.SlLaysF0.n6 Tryz.prog vh:=by
 constructor;exact oe;exact⟨f108.name,oi,fk func108⟩;exact⟨f162.name,oi,fk func162⟩;exact fk func39;exact⟨f210.name,oi,fk func210⟩;exact⟨f211.name,oi,fk func211⟩;exact⟨f212.name,oi,fk func212⟩;exact⟨f213.name,oi,fk func213⟩;exact⟨f214.name,oi,fk func214⟩;exact⟨f215.name,oi,fk func215⟩;exact⟨f216.name,oi,fk func216⟩;exact⟨f217.name,oi,fk func217⟩;exact fk func73;exact fk func74;exact⟨f261.name,oi,fk func261⟩;exact fk func111;exact fk func112;exact⟨f262.name,oi,fk func262⟩;exact⟨f263.name,oi,fk func263⟩;exact⟨f307.name,oi,fk func307⟩;repeat' first|(intros;kernel_rfl)|decide|constructor
end Go.Proofs
namespace Go.Ev.Pv
open Go.Proofs Go.Shelf
def AQV:FSpec:=⟨[.io 400 (.agg (.prod (.agg (.prod (.int .i64) (.prod .str (.prod .bool .str)))) (.agg (.prod (.int .i64) (.prod .str (.prod .bool .str)))))),.hof true (.prod (.agg (.prod (.agg (.prod (.int .i64) (.prod .str (.prod .bool .str)))) (.agg (.prod (.int .i64) (.prod .str (.prod .bool .str)))))) (.agg (.prod (.agg (.prod (.int .i64) (.prod .str (.prod .bool .str)))) (.agg (.prod (.int .i64) (.prod .str (.prod .bool .str))))))) (.int .i64)],[],uO,true⟩
theorem AQW:FF Go.Proofs.Tryz.prog 236/\FunOK Go.Proofs.Tryz.prog 236 AQV:=
 ⟨entered Tryz.func236 oe oe,pT wj rfl Tryz.isAgg400 Tryz.sizeOf400 oi⟩
def AQX:FSpec:=⟨[.io 145 (.agg (.prod (.int .i64) (.int .i64))),.hof true (.prod (.agg (.prod (.int .i64) (.int .i64))) (.agg (.prod (.int .i64) (.int .i64)))) (.int .i64)],[],uP,true⟩
theorem AQY:FF Go.Proofs.Tryz.prog 93/\FunOK Go.Proofs.Tryz.prog 93 AQX:=
 ⟨entered Tryz.func93 oe oe,pT wn rfl Tryz.isAgg145 Tryz.sizeOf145 oi⟩
def AQZ:FSpec:=⟨[.io 127 (.agg (.prod .str .str)),.hof true (.prod (.agg (.prod .str .str)) (.agg (.prod .str .str))) (.int .i64)],[],fL,true⟩
theorem AQ_:FF Go.Proofs.Tryz.prog 108/\FunOK Go.Proofs.Tryz.prog 108 AQZ:=
 ⟨entered Tryz.func108 oe oe,pT wl rfl Tryz.isAgg127 Tryz.sizeOf127 oi⟩
end Go.Ev.Pv
namespace Go.Proofs
open Tryz
open Go.Shelf
def vl:Go.Shelf.Ren:=⟨λ|6=>31|15=>39|14=>50|28=>73|29=>74|20=>78|21=>79|22=>80|23=>81|24=>82|25=>83|26=>84|27=>85|46=>120|47=>111|48=>112|49=>121|50=>122|57=>174|n=>n,λ|22=>88|24=>90|25=>92|3=>3|39=>112|0=>0|53=>180|55=>182|4=>4|46=>172|45=>171|50=>177|5=>5|9=>9|66=>247|70=>251|76=>302|77=>303|n=>n,λ|n=>n⟩
theorem wq:Go.Proofs.SlLaysF0.n6 Tryz.prog vl:=by
 constructor;exact oe;exact⟨f31.name,oi,fk func31⟩;exact⟨f50.name,oi,fk func50⟩;exact fk func39;exact⟨f78.name,oi,fk func78⟩;exact⟨f79.name,oi,fk func79⟩;exact⟨f80.name,oi,fk func80⟩;exact⟨f81.name,oi,fk func81⟩;exact⟨f82.name,oi,fk func82⟩;exact⟨f83.name,oi,fk func83⟩;exact⟨f84.name,oi,fk func84⟩;exact⟨f85.name,oi,fk func85⟩;exact fk func73;exact fk func74;exact⟨f120.name,oi,fk func120⟩;exact fk func111;exact fk func112;exact⟨f121.name,oi,fk func121⟩;exact⟨f122.name,oi,fk func122⟩;exact⟨f174.name,oi,fk func174⟩;repeat' first|(intros;kernel_rfl)|decide|constructor
end Go.Proofs
namespace Go.Ev.Pv
open Go.Proofs
def AQa:FSpec:=⟨[.io 90 (.agg (.prod .str (.prod .str (.int .i64)))),.hof true (.prod (.agg (.prod .str (.prod .str (.int .i64)))) (.agg (.prod .str (.prod .str (.int .i64))))) (.int .i64)],[],fM,true⟩
theorem AQb:FF Go.Proofs.Tryz.prog 31/\FunOK Go.Proofs.Tryz.prog 31 AQa:=
 ⟨entered Tryz.func31 oe oe,pT wq rfl Tryz.isAgg90 Tryz.sizeOf90 oi⟩
variable{l:FH}
variable [Pins]
theorem A8W(h:(l.map (·.1)).Nodup)(x:IS)(v:Bool):DU GF x l=some v<->(x,v)∈l:=by
 induction l with
 |nil=>simp[DU]
 |cons a l d=>
  rw[C6]at h;have⟨h1,b⟩:=AW.1 h;simp only[DU];rw[SE];grind
theorem A8X(h:(l.map (·.1)).Nodup):l.Nodup:=(List.pairwise_map.1 h).imp λ{a b} h e=>h (congrArg (·.1) e)
theorem A0V{m:FH}(a:(l.map (·.1)).Nodup)(b:(m.map (·.1)).Nodup)(h:∀x,DU GF x l=DU GF x m):l.Perm m:=by
 refine(List.perm_ext_iff_of_nodup (A8X a) (A8X b)).2 λe=>?_;obtain⟨x,v⟩:=e;rw[<-A8W a,<-A8W b,h]
theorem A8Y(h:(l.map (·.1)).Nodup)(x:IS)(v:Bool):((EB GF x v l).map (·.1)).Nodup:=by
 rw[pJ SE];grind
theorem A8Z(k a:IS)(v:Bool)(m:FH):DU GF k (EB GF a v m)=if k=a then some v else DU GF k m:=pG SE k a v m
theorem A8_:∀(o u:FH) (x:IS),DU GF x (JQ o u)=if x∈o.map (·.1)then some true else DU GF x u:=by
 intro o;induction o with
 |nil=>intro u x;rfl
 |cons k o a=>
  intro u x;show DU GF x (JQ o (EB GF k.1 true u))=_;rw[a,A8Z,C6];grind
theorem A8a:∀(o u:FH),(u.map (·.1)).Nodup->((JQ o u).map (·.1)).Nodup:=by
 intro o;induction o with
 |nil=>intro u h;exact h
 |cons k o a=>intro u h;exact a _ (A8Y h k.1 true)
theorem AQc{o o' u:FH}(h:o'.Perm o)(a:(u.map (·.1)).Nodup):(JQ o' u).Perm (JQ o u):=by
 grind[A0V,A8a,A8_]
theorem AQd{o u r:FH}(d:(u.map (·.1)).Nodup)(b:o.Perm l)(h:EY S3 l u=some (.inl r)):∃a,EY S3 o u=some (.inl a)/\a.Perm r:=by
 rw[pK]at h ⊢;cases A2 h;exact⟨_,rfl,AQc b d⟩
open Classical in
def StR(p:HJ)(sg:Int)(o u:FH)(z:Sum (Int×HJ×FH) Unit):Prop:=(∀k∈o,∃r,O0 (p,k.1,sg)=some r)/\
 ∃L:FH,z=.inl (sg,p,L)/\((u.map (·.1)).Nodup->(L.map (·.1)).Nodup)/\∀x,DU GF x L=if(∃k∈o,O0 (p,k.1,sg)=some (x,true))then some true else DU GF x u
theorem A8b(p:HJ)(sg:Int):∀(o u:FH) (z:Sum (Int×HJ×FH) Unit),EY LT o (sg,p,u)=some z->StR p sg o u z:=by
 classical
 intro o;induction o with
 |nil=>
  intro u z h;cases A2 h;exact⟨λk h=>(oq),u,rfl,id,λx=>by rw[if_neg (λ⟨k,h,_⟩=>(oq))]⟩
 |cons k o I=>
  intro u z h;unfold EY at h;have⟨y,h1,C⟩:=MJ h;unfold LT at h1;dsimp only at h1;have⟨⟨a,b⟩,D,s⟩:=MJ h1
  have key:∀d,y=.inl (sg,p,d)->((u.map (·.1)).Nodup->(d.map (·.1)).Nodup)->(∀x,DU GF x d=if b=true/\x=a then some true else DU GF x u)->StR p sg (k::o) u z:=λd H G m=>by
   subst H;have⟨J,L,w,A,B⟩:=I d z C
   have all:∀j∈k::o,∃r,O0 (p,j.1,sg)=some r:=λj hk=>by
    grind
   refine⟨all,L,w,λE=>A (G E),λx=>?_⟩;rw[B x,m x];by_cases e:∃j∈o,O0 (p,j.1,sg)=some (x,true)
   .simp_all
   .rw[if_neg e];by_cases l:b=true/\x=a
    .rw[if_pos l,if_pos ⟨k,AE,by rw[D,l.1,l.2]⟩]
    grind
  cases b with
  |true=>
   have s:some (Sum.inl (sg,p,EB GF a true u))=some y:=s;grind[Option.some.inj,A8Y,A8Z]
  |false=>
   grind
theorem AQe(p:HJ)(sg:Int):∀(o u:FH),(∀k∈o,∃r,O0 (p,k.1,sg)=some r)->∃z,EY LT o (sg,p,u)=some z:=by
 intro o;induction o with
 |nil=>intro u _;exact⟨_,rfl⟩
 |cons k o l=>
  intro u h;have⟨⟨a,b⟩,e⟩:=h k AE;unfold EY
  have:∃d,LT k (sg,p,u)=some (.inl (sg,p,d)):=by
   unfold LT;dsimp only;rw[e,A0];cases b<;>exact⟨_,rfl⟩
  obtain⟨d,j⟩:=this;simp_all
theorem AQf{p:HJ}{sg:Int}{o u:FH}{z:Sum (Int×HJ×FH) Unit}(j:(u.map (·.1)).Nodup)(e:o.Perm l)(h:EY LT l (sg,p,u)=some z):
 ∃L L':FH,z=.inl (sg,p,L)/\EY LT o (sg,p,u)=some (.inl (sg,p,L'))/\L'.Perm L:=by
 classical
 have⟨h1,L,y,A,B⟩:=A8b p sg l u z h;have⟨C,d⟩:=AQe p sg o u λk hk=>h1 k (e.mem_iff.1 hk);have⟨_,L',m,s,w⟩:=A8b p sg o u C d;refine⟨L,L',y,by rw[d,m],A0V (s j) (A j) λx=>?_⟩;rw[w,B];have:(∃k∈o,O0 (p,k.1,sg)=some (x,true))<->∃k∈l,O0 (p,k.1,sg)=some (x,true):=⟨λ⟨k,a,b⟩=>⟨k,e.mem_iff.1 a,b⟩,λ⟨k,a,b⟩=>⟨k,e.mem_iff.2 a,b⟩⟩;simp only[this]
def SJ(p:HJ)(k:IS):Option (Option IS):=
 (bif (!(k.2||(decide ((p.2.1.length:Int)<=k.1))))then at? p.2.1 k.1 else some ((0:Int),(0:Int))).bind λy2=>
 (bif ((!(k.2||(decide ((p.2.1.length:Int)<=k.1))))&&(!(DO y2.1 (2:Int))))then at? p.2.1 k.1 else some ((0:Int),(0:Int))).bind λy3=>
 some (bif ((k.2||(decide ((p.2.1.length:Int)<=k.1)))||((!(DO y2.1 (2:Int)))&&(!(DO y3.1 (4:Int)))))then none else some ((IntKind.i64.wrap (k.1+(1:Int))),false))
theorem A8c(p:HJ)(k:IS×Bool)(l:FH)(b:Bool):LR k (l,p,b)=(SJ p k.1).bind λw=>match w with
 |none=>some (.inl (l,p,b))
 |some x=>bif (DU GF x l).getD false then some (.inl (l,p,b))else some (.inl (JQ l [(x,true)],p,true)):=by
 unfold LR SJ;dsimp only;cases (bif (!(k.1.2||(decide ((p.2.1.length:Int)<=k.1.1))))then at? p.2.1 k.1.1 else some ((0:Int),(0:Int)))with
 |none=>rfl
 |some y=>
  rw[A0,A0];cases (bif ((!(k.1.2||(decide ((p.2.1.length:Int)<=k.1.1))))&&(!(DO y.1 (2:Int))))then at? p.2.1 k.1.1 else some ((0:Int),(0:Int)))with
  |none=>rfl
  |some a=>
   rw[A0,A0,A0];cases ((k.1.2||(decide ((p.2.1.length:Int)<=k.1.1)))||((!(DO y.1 (2:Int)))&&(!(DO a.1 (4:Int)))))with
   |true=>rfl
   |false=>
    rw[A8,A8,A7f];show(bif (!((DU GF ((IntKind.i64.wrap (k.1.1+(1:Int))),false) l).getD false))then _ else _)=_;simp
def SK(p:HJ)(o:FH)(x:IS):Prop:=∃k∈o,SJ p k.1=some (some x)
theorem AQg(l:FH)(x:IS):((l.map (·.1)).Nodup->((JQ l [(x,true)]).map (·.1)).Nodup)/\∀y,DU GF y (JQ l [(x,true)])=if y=x\/y∈l.map (·.1)then some true else none:=by
 refine⟨λ_=>A8a _ _ oh,λy=>?_⟩;rw[A8_];by_cases h:y∈l.map (·.1)<;>simp_all[if_pos,if_neg,DU,SE,A6,A7,A9,A8]
theorem AQh{x:IS}{v:Bool}(h:DU GF x l=some v):x∈l.map (·.1):=by
 induction l with
 |nil=>cases h
 |cons a l b=>
  simp only[DU]at h;rw[SE]at h;grind
def WdR(p:HJ)(o l:FH)(b:Bool)(l':FH)(b':Bool):Prop:=
 ((∀x,SK p o x->(DU GF x l).getD false=true)/\l'=l/\b'=b)\/
 ((∃x,SK p o x/\(DU GF x l).getD false=false)/\b'=true/\(l'.map (·.1)).Nodup/\∀y,((SK p o y\/y∈l.map (·.1))->DU GF y l'=some true)/\(¬(SK p o y\/y∈l.map (·.1))->DU GF y l'=none))
theorem A8d(p:HJ):∀(o l:FH) (b:Bool) (z:Sum (FH×HJ×Bool) Unit),(l.map (·.1)).Nodup->EY LR o (l,p,b)=some z->(∀k∈o,∃r,SJ p k.1=some r)/\∃s j,z=.inl (s,p,j)/\WdR p o l b s j:=by
 intro o;induction o with
 |nil=>
  intro l b z _ h;cases A2 h;exact⟨λk h=>(oq),l,b,rfl,.inl ⟨λx ⟨k,h,_⟩=>(oq),rfl,rfl⟩⟩
 |cons k o Q=>
  intro l b z J h;unfold EY at h;rw[A8c]at h;have⟨y,h1,M⟩:=MJ h;have⟨w,U,I⟩:=MJ h1
  have all:(∀k∈o,∃r,SJ p k.1=some r)->∀m∈k::o,∃r,SJ p m.1=some r:=λg m hk=>by
   rcases A_.1 hk with rfl|hk
   .grind
   .exact g m hk
  have d:∀x,SK p (k::o) x<->w=some x\/SK p o x:=λx=>by
   constructor
   .rintro⟨m,hk,B⟩;rcases A_.1 hk with rfl|hk
    .grind
    .exact .inr ⟨m,hk,B⟩
   .rintro(rfl|⟨m,hk,B⟩)
    .exact⟨k,AE,U⟩
    .exact⟨m,AN _ hk,B⟩
  have same:y=.inl (l,p,b)->(∀x,w=some x->(DU GF x l).getD false=true)->(∀m∈k::o,∃r,SJ p m.1=some r)/\∃s j,z=.inl (s,p,j)/\WdR p (k::o) l b s j:=λa O=>by
   subst a;have⟨E,s,j,G,H⟩:=Q l b z J M;refine⟨all E,s,j,G,?_⟩;rcases H with⟨A,D,C⟩|⟨⟨x,T,A⟩,D,C,L⟩
   .exact .inl ⟨λx B=>((d x).1 B).elim (O x) (A x),D,C⟩
   .refine .inr ⟨⟨x,(d x).2 (.inr T),A⟩,D,C,λy=>⟨λa=>?_,λa=>(L y).2 λh=>a (h.imp (λh=>(d y).2 (.inr h)) id)⟩⟩;rcases a with a|a
    .rcases(d y).1 a with a|a
     .have:=O y a;cases e:DU GF y l<;>grind[DU,GF,AQh]
     grind
    grind
  cases w with
  |none=>simp_all
  |some x=>
   dsimp only at I;cases N:(DU GF x l).getD false with
   |true=>
    grind
   |false=>
    rw[N,A8]at I;cases A2 I;have⟨R,K⟩:=AQg l x;have⟨E,s,j,G,H⟩:=Q _ true z (R J) M;refine⟨all E,s,j,G,.inr ⟨⟨x,(d x).2 (.inl rfl),N⟩,?_⟩⟩;rcases H with⟨A,rfl,rfl⟩|⟨_,rfl,C,L⟩
    .refine⟨rfl,R J,λy=>⟨λa=>?_,λa=>?_⟩⟩
     .rw[K];rcases a with a|a
      .rcases(d y).1 a with a|a
       .grind
       .have:=A y a;rw[K]at this;by_cases e:y=x\/y∈l.map (·.1)<;>grind
      grind
     .rw[K,if_neg];grind
    .have hk:∀y,y∈(JQ l [(x,true)]).map (·.1)<->y=x\/y∈l.map (·.1):=λy=>by
      rw[A7e];simp[or_comm]
     grind
theorem AQi(p:HJ):∀(o l:FH) (b:Bool),(∀k∈o,∃r,SJ p k.1=some r)->∃z,EY LR o (l,p,b)=some z:=by
 intro o;induction o with
 |nil=>intro l b _;exact⟨_,rfl⟩
 |cons k o m=>
  intro l b h;have⟨r,j⟩:=h k AE
  have:∃d a,LR k (l,p,b)=some (.inl (d,p,a)):=by
   rw[A8c,j,A0];cases r with
   |none=>simp
   |some x=>dsimp only;cases (DU GF x l).getD false<;>exact⟨_,_,rfl⟩
  obtain⟨d,a,e⟩:=this;unfold EY;rw[e,A0];exact m d a λk hk=>h k (AN _ hk)
theorem AQj{p:HJ}{o u:FH}{b:Bool}{z:Sum (FH×HJ×Bool) Unit}(m:(u.map (·.1)).Nodup)(e:o.Perm l)(h:EY LR l (u,p,b)=some z):
 ∃(L L':FH) (b':Bool),z=.inl (L,p,b')/\EY LR o (u,p,b)=some (.inl (L',p,b'))/\L'.Perm L:=by
 have⟨h1,L,b',E,G⟩:=A8d p l u b z m h;have⟨H,d⟩:=AQi p o u b λk hk=>h1 k (e.mem_iff.1 hk);have⟨_,L',A,D,j⟩:=A8d p o u b H m d;have M:∀x,SK p o x<->SK p l x:=λx=>⟨λ⟨k,a,c⟩=>⟨k,e.mem_iff.1 a,c⟩,λ⟨k,a,c⟩=>⟨k,e.mem_iff.2 a,c⟩⟩;rcases G with⟨s,rfl,rfl⟩|⟨⟨x,I,s⟩,rfl,w,J⟩
 .rcases j with⟨_,rfl,rfl⟩|⟨⟨y,c0,B⟩,_⟩<;>grind
 .rcases j with⟨B,_⟩|⟨_,rfl,C,K⟩
  .grind
  .refine⟨L,L',true,E,by rw[d,D],A0V C w λy=>?_⟩;grind
abbrev tSpot:Ty:=.agg (.prod (.int .i64) .bool)
abbrev SL:Ty:=.prod .str (.prod (.slice (.agg (.prod (.int .i64) (.int .u8)))) (.int .i64))
theorem AQk(v:TupR [.it tSpot .bool,.omap tSpot .bool])(x:H1 [((.exit 0),⟨[5],[.omap tSpot .bool]⟩),(.ret,⟨[],[]⟩)])(b:VI [.it tSpot .bool,.omap tSpot .bool] v)(e:EY S3 v.1 v.2=some x)
 (o:List (tSpot.T×Ty.bool.T))(d:o.Perm (show List (tSpot.T×Ty.bool.T)from v.1)):∃z,EY S3 o v.2=some z/\VH [((.exit 0),⟨[5],[.omap tSpot .bool]⟩),(.ret,⟨[],[]⟩)] z x:=by
 have h:some (Sum.inl (JQ v.1 v.2))=some x:=(pK v.1 v.2).symm.trans e;have h:=A2 h;subst h;have⟨r,h1,a⟩:=AQd (o:=o) b.2 d (pK _ _);exact⟨_,h1,a⟩
theorem AQl(v:TupR [.it tSpot .bool,.val (.int .i64),.box (.val SL),.omap tSpot .bool])(x:H1 [((.exit 0),⟨[2,3,7],[.val (.int .i64),.box (.val SL),.omap tSpot .bool]⟩),(.ret,⟨[],[]⟩)])
 (b:VI [.it tSpot .bool,.val (.int .i64),.box (.val SL),.omap tSpot .bool] v)(e:EY LT v.1 v.2=some x)(o:List (tSpot.T×Ty.bool.T))(d:o.Perm (show List (tSpot.T×Ty.bool.T)from v.1)):
 ∃z,EY LT o v.2=some z/\VH [((.exit 0),⟨[2,3,7],[.val (.int .i64),.box (.val SL),.omap tSpot .bool]⟩),(.ret,⟨[],[]⟩)] z x:=by
 obtain⟨l,s,p,u⟩:=v;have⟨L,L',h1,h,a⟩:=AQf (p:=p) (sg:=s) (l:=l) (o:=o) (u:=u) b.2.2.2 d e;have h1:=h1.symm;subst h1;exact⟨_,h,⟨rfl,rfl,a⟩⟩
theorem AQm(v:TupR [.it tSpot .bool,.val (.map tSpot .bool),.box (.val SL),.val .bool])(x:H1 [((.exit 2),⟨[1,2,5],[.val (.map tSpot .bool),.box (.val SL),.val .bool]⟩),(.ret,⟨[],[]⟩)])
 (d:VI [.it tSpot .bool,.val (.map tSpot .bool),.box (.val SL),.val .bool] v)(j:EY LR v.1 v.2=some x)(o:List (tSpot.T×Ty.bool.T))(e:o.Perm (show List (tSpot.T×Ty.bool.T)from v.1)):
 ∃z,EY LR o v.2=some z/\VH [((.exit 2),⟨[1,2,5],[.val (.map tSpot .bool),.box (.val SL),.val .bool]⟩),(.ret,⟨[],[]⟩)] z x:=by
 obtain⟨l,u,p,b⟩:=v;have⟨L,L',m,h1,h,a⟩:=AQj (p:=p) (l:=l) (o:=o) (u:=u) (b:=b) d.2.1 e j;have h1:=h1.symm;subst h1;exact⟨_,h,⟨a,rfl,rfl⟩⟩
end Go.Ev.Pv
