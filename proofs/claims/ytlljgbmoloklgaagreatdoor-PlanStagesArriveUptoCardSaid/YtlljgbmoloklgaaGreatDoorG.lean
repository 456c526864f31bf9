/-
  The contracts of Go's library that the law reaches, in the evaluator's terms.
-/
import Derived.Test.YtlljgbmoloklgaaGreatDoorE4
import Derived.Below
import Derived.Shelf.Strings.Builder1
import Derived.Shelf.Strings.Builder2
import Derived.Shelf.Strings.OnBuilder
import Derived.Shelf.Small.Utf8
import Derived.Shelf.Small.Bits
import Derived.Shelf.Small.Strs
import Derived.Shelf.Small.Wraps
import Derived.Shelf.Strings.BuilderF
import Derived.Shelf.Strings.BuilderK
import Derived.Shelf.Strings.BuilderRune
import Derived.Shelf.Utf8.RuneCount
import Derived.Shelf.Strings.Builder2Cap
import Derived.Shelf.Strconv.Atoi
import Derived.Shelf.Strconv.Itoa0
import Derived.Shelf.Strconv.Itoa1
import Derived.Shelf.LaysM
import Derived.Shelf.Strconv.Itoa2
import Derived.Shelf.Strconv.Itoa3
import Derived.Shelf.Strconv.AtoiErrFast
import Derived.Shelf.Strconv.ParseIntEmpty
import Derived.Shelf.Strconv.AtoiFail
import Derived.Shelf.Strconv.Clone
import Derived.Shelf.Strconv.SyntaxError
import Derived.Shelf.LaysC
import Derived.Shelf.Strconv.ToError
import Derived.Shelf.Strconv.Lower
import Derived.Shelf.Strconv.ParseUint10
import Derived.Shelf.Strconv.ParseUint10Empty
import Derived.Shelf.Strconv.ParseUint10Any
import Derived.Shelf.Strconv.ParseInt10
import Derived.Shelf.Strconv.AtoiLong
import Derived.Shelf.Strconv.AtoiInnerAll
import Derived.Shelf.Strconv.RangeError
import Derived.Shelf.Strconv.ToErrorRange
import Derived.Shelf.Strconv.AtoiAll
import Derived.Shelf.Strconv.ParseUintEmpty
import Derived.Shelf.Strconv.ParseUint10b64
import Derived.Shelf.Strconv.ParseUint10b32
import Derived.Shelf.Strconv.ParseUint10b16
import Derived.Shelf.Strconv.ParseUint10b8
import Derived.Shelf.Strings.Search1
import Derived.Shelf.Strings.Search2
import Derived.Shelf.Strings.Search3
import Derived.Shelf.Strings.Cut
import Derived.Shelf.Strings.Count
import Derived.Shelf.Strings.Shaped
import Derived.Shelf.Sort.Plain
import Derived.Shelf.Strings.LastIndex
import Derived.Shelf.Strings.Prefix
import Derived.Shelf.Strings.Split
import Derived.Shelf.Strings.SplitShaped
import Derived.Shelf.Unicode.Latin
import Derived.Shelf.Unicode.Decode
import Derived.Shelf.Strings.RuneCount
import Derived.Shelf.Strings.Explode
import Derived.Shelf.Bits.Mul64
import Derived.Shelf.Strings.Repeat
import Derived.Shelf.Unicode.DecodeSlow
import Derived.Shelf.Unicode.DecodeAny
import Derived.Shelf.Strings.FieldsFuncAny
import Derived.Shelf.Unicode.CaseLookup
import Derived.Shelf.Unicode.CaseConvert
import Derived.Shelf.Unicode.CaseTo
import Derived.Shelf.Unicode.CaseLaid
import Derived.Shelf.Strings.MapAny
import Derived.Shelf.Strings.CaseAny
import Derived.Shelf.Strings.FieldsFuncGrows
import Derived.Shelf.Slices.Turned
import Derived.Ground.Names2Prog
import Derived.Shelf.Slices.ReverseS
import Derived.Shelf.Slices.Clone
import Derived.Shelf.Slices.CompactS
import Derived.Shelf.Slices.SearchI
import Derived.Shelf.Slices.Cells
import Derived.Shelf.Slices.In.SortNone
import Derived.Ground.SlgnProg
import Derived.Shelf.SlicesE.Reverse
import Derived.Shelf.SlicesE.Clone
import Derived.Test.YtlljgbmoloklgaaGreatDoorProg
import Derived.Test.YtlljgbmoloklgaaGreatDoorD
import Derived.Lib.AppendIntMem
import Derived.Shelf.SlSortCmp.WholeK
import Derived.Shelf.SlSortCmp.NoneTotal
import Derived.Lib.QuietBelow
import Derived.Shelf.SlicesE.Kit
import Derived.Shelf.RegionOpenPlain
import Derived.WalkKit
import Derived.Deep.RegionLaw
import Derived.Lib.SliceRun
import Derived.Deep.MidRow
import Derived.Sort.Defs
import Derived.Shelf.Spec.SlicesInsertGrow
import Derived.Lib.AppendZerosOnto
import Derived.Laws.NewBlocks
import Derived.Shelf.SlGeneric
import Derived.Shelf.SlLaysF0
import Derived.Ground.SlsfProg
set_option linter.unusedVariables false
set_option linter.unusedSimpArgs false
set_option linter.unusedSectionVars false
set_option maxRecDepth 100000
namespace Go.Ev
variable [Pins]
open Go.RowKit
def RV(I:Im)(X:Nat->Nat->Prop):Im:=⟨λb o=>I.cell b o\/X b o,I.obj⟩
theorem After.below{w w':World}{I:Im}(hm:GM w I)(hb:Below w.heap.size w w'){X:Nat->Nat->Prop}(hx:∀b o,X b o->w.heap.size<=b/\b<w'.heap.size):
 After (·∈([]:List Nat)) w I w' (RV I X):=by
 have he:Ext w I w' (RV I X):=⟨λb o h=>⟨.inl h,by simp only[World.cell?,hb.block b (hm.1 b o h)]⟩,λb h=>⟨h,hb.block b (hm.2.1 b h)⟩⟩
 exact ⟨he,λb hlt _=>hb.block b hlt,hb.size,λb o h=>h.imp id λh=>.inl (hx b o h).1,λb h=>.inl h,
  λb o h=>h.elim (λh=>B0 (hm.1 b o h) hb.size) λh=>(hx b o h).2,λb h=>B0 (hm.2.1 b h) hb.size,hb.os,hb.tape,hb.output,hm.2.2.ext he⟩
theorem FunOK.given{P:Program}{f:Nat}{sp:FSpec}(h:∀(w:World) (I:Im) (v:TupR sp.ps) (args:List Value) (bs:List Nat),GM w I->ShL P w I sp.ps v args bs->∀r,sp.F v=some r->bs=[]/\
 Calls P f args.toArray w λe w'=>∃rv vs X,e=.returned rv/\vs.length=sp.rs.length/\IV vs rv/\Below w.heap.size w w'/\(sp.dr=true->w.drawn<=w'.drawn)/\(∀b o,X b o->w.heap.size<=b/\b<w'.heap.size)/\
  ShL P w' (RV I X) (sp.rs++sp.ps.filter EU) r (vs++FT sp.ps args) []):FunOK P f sp:=by
 intro w I v args bs hm hsh hnd r hr;obtain⟨rfl,hc⟩:=h w I v args bs hm hsh r hr;refine hc.mono λe w' ⟨rv,vs,X,h1,h2,h3,h4,h7,h5,h6⟩=>?_;exact⟨rv,vs,RV I X,[],h1,h2,h3,After.below hm h4 h5,h6,.nil,(λb hb=>by cases hb),h7⟩
def NV:Nat->Nat->Prop:=λ_ _=>False
theorem P1{w w':World}:∀b o,NV b o->w.heap.size<=b/\b<w'.heap.size:=λ_ _ h=>h.elim
section
variable{P:Program}{w:World}{I:Im}
theorem IN{x:DW}{v:Value}(h:VRel w I .str x v):v=.string ⟨x.toArray⟩/\x.length<=281474976710656:=by
 obtain⟨c,h1,h2,h3⟩:=h;have h1:c=[v]:=h1;rw[h1]at h2;cases h2;exact⟨rfl,h3⟩
theorem dF{k:IntKind}{n:Int}{v:Value}(h:VRel w I (.int k) n v):v=.int k n/\G6 k n:=by
 obtain⟨c,h1,h2,h3⟩:=h;have h1:c=[v]:=h1;rw[h1]at h2;cases h2;exact⟨rfl,h3⟩
theorem ABs{b:Bool}{v:Value}(h:VRel w I .bool b v):v=.bool b:=by
 obtain⟨c,h1,h2⟩:=h;have h1:c=[v]:=h1;have h2:c=[.bool b]:=h2;rw[h1]at h2;cases h2;rfl
theorem LP{x:DW}(h:x.length<=281474976710656):VRel w I .str x (.string ⟨x.toArray⟩):=⟨_,rfl,rfl,h⟩
theorem dG{k:IntKind}{n:Int}(h:G6 k n):VRel w I (.int k) n (.int k n):=⟨_,rfl,rfl,h⟩
theorem pK{b:Bool}:VRel w I .bool b (.bool b):=⟨_,rfl,rfl⟩
theorem pL{a:Ty}{x:a.T}{args:List Value}{bs:List Nat}(h:ShL P w I [.val a] x args bs):bs=[]/\∃v,args=[v]/\VRel w I a x v:=by
 obtain⟨v,rfl,h1,rfl⟩:=h;exact⟨rfl,v,rfl,h1⟩
theorem MZ{a b:Ty}{x:a.T×b.T}{args:List Value}{bs:List Nat}(h:ShL P w I [.val a,.val b] x args bs):bs=[]/\∃v u,args=[v,u]/\VRel w I a x.1 v/\VRel w I b x.2 u:=by
 obtain⟨v,vs,b1,b2,rfl,rfl,⟨h1,rfl⟩,u,rfl,h2,rfl⟩:=h;exact⟨rfl,v,u,rfl,h1,h2⟩
theorem KG{a:Ty}{x:a.T}{v:Value}(h:VRel w I a x v):ShL P w I [.val a] x [v] []:=⟨v,rfl,h,rfl⟩
theorem ABt{a b:Ty}{x:a.T×b.T}{v u:Value}(h:VRel w I a x.1 v)(k:VRel w I b x.2 u):ShL P w I [.val a,.val b] x [v,u] []:=
 ⟨v,[u],[],[],rfl,rfl,⟨h,rfl⟩,u,rfl,k,rfl⟩
theorem ABu{a b c:Ty}{x:a.T×b.T×c.T}{v u t:Value}(h:VRel w I a x.1 v)(k:VRel w I b x.2.1 u)(m:VRel w I c x.2.2 t):ShL P w I [.val a,.val b,.val c] x [v,u,t] []:=
 ⟨v,[u,t],[],[],rfl,rfl,⟨h,rfl⟩,u,[t],[],[],rfl,rfl,⟨k,rfl⟩,t,rfl,m,rfl⟩
end
theorem FunOK.flat1{P:Program}{f:Nat}{sp:FSpec}{t:Ty}(hrs:sp.rs=[.val t])(hps:sp.ps.filter EU=[])(hbv:∀args,FT sp.ps args=[])
 (h:∀ (w:World) (I:Im) (v:TupR sp.ps) (args:List Value) (bs:List Nat),GM w I->ShL P w I sp.ps v args bs->∀ r,sp.F v=some r->bs=[] /\
  ∃rv,(∀w' I',ShL P w' I' (sp.rs++sp.ps.filter EU) r [rv] [])/\Calls P f args.toArray w λe w'=>e=.returned rv/\Below w.heap.size w w'/\(sp.dr=true->w.drawn<=w'.drawn)):FunOK P f sp:=by
 refine FunOK.given λw I v args bs hm hsh r hr=>?_;obtain⟨h1,rv,h2,h3⟩:=h w I v args bs hm hsh r hr;refine⟨h1,h3.mono λe w' ⟨he,hb,hd⟩=>⟨rv,[rv],NV,he,by rw[hrs];rfl,rfl,hb,hd,P1,?_⟩⟩;rw[hbv];exact h2 w' _
end Go.Ev
namespace Go.Proofs
open Tryz
theorem fk{α:Type}{a:Option α}{b c:α}(h:a=some b)(k:b=c:=by kernel_rfl):a=some c:=h.trans (congrArg some k)
open Go.Shelf
def Tryz.lays169_ren:Go.Shelf.Ren:=⟨λ|169=>190|n=>n,λ|70=>297|9=>9|0=>0|72=>300|37=>298|127=>347|3=>3|5=>5|n=>n,λ|n=>n⟩
theorem Tryz.lays169:Go.Proofs.Lays.n169 Tryz.prog Tryz.lays169_ren:=by repeat' first|(intros;kernel_rfl)|decide|constructor
theorem Tryz.Builder_Extra_169:Builder.Extra Tryz.prog Tryz.lays169_ren:=by repeat' first|(intros;kernel_rfl)|decide|constructor
def Tryz.lays159_ren:Go.Shelf.Ren:=⟨λ|159=>175|165=>233|166=>187|167=>234|169=>190|230=>235|204=>236|240=>239|241=>272|197=>273|118=>274|168=>275|270=>276|262=>277|276=>280|277=>300|260=>301|242=>302|313=>303|278=>329|274=>330|275=>331|n=>n,λ|9=>9|4=>4|3=>3|5=>5|72=>300|0=>0|76=>305|75=>304|107=>342|70=>297|20=>20|37=>298|127=>347|21=>21|105=>373|164=>380|162=>402|203=>400|119=>424|46=>185|139=>427|138=>426|51=>251|160=>428|208=>448|206=>446|80=>214|n=>n,λ|13=>1|3=>2|4=>3|n=>n⟩
theorem Tryz.lays159:Go.Proofs.Lays.n159 Tryz.prog Tryz.lays159_ren:=by repeat' first|(intros;kernel_rfl)|decide|constructor
theorem Tryz.Builder_Extra_159:Builder.Extra Tryz.prog Tryz.lays159_ren:=by repeat' first|(intros;kernel_rfl)|decide|constructor
def Tryz.lays156_ren:Go.Shelf.Ren:=⟨λ|156=>202|165=>233|166=>187|169=>190|240=>239|241=>272|276=>280|277=>300|n=>n,λ|31=>28|9=>9|3=>3|4=>4|0=>0|20=>20|72=>300|76=>305|70=>297|37=>298|75=>304|127=>347|164=>380|5=>5|80=>214|n=>n,λ|n=>n⟩
theorem Tryz.lays156:Go.Proofs.Lays.n156 Tryz.prog Tryz.lays156_ren:=by repeat' first|(intros;kernel_rfl)|decide|constructor
theorem Tryz.Builder_Extra_156:Builder.Extra Tryz.prog Tryz.lays156_ren:=by repeat' first|(intros;kernel_rfl)|decide|constructor
open Go.RowKit in
theorem Tryz.strings_Join_none(a:Option Addr)(c:Nat)(sep:ByteArray)(w:World):
 Calls Tryz.prog 202 #[.slice a 0 c,.string sep] w λe w'=>e=.returned (.string ⟨#[]⟩)/\w'=w:=Any.strings_Join_none Tryz.lays156 Tryz.Builder_Extra_156 a c sep w
open Go.RowKit in
theorem Tryz.strings_Join(bk o c:Nat)(xs:List ByteArray)(sep:ByteArray)(w:World)(hcells:∀(j:Nat) x,xs[j]?=some x->w.cell? ⟨bk,o+j,none⟩=some (.string x))(hbk:bk<w.heap.size)(hN:xs.length<=140737488355328)(hcap:xs.length<=c)(hlen:(Lib.join (xs.map (·.data.toList)) sep.data.toList).length<=140737488355328):
 Calls Tryz.prog 202 #[.slice (some ⟨bk,o,none⟩) xs.length c,.string sep] w λe w'=>e=.returned (.string ⟨(Lib.join (xs.map (·.data.toList)) sep.data.toList).toArray⟩)/\Below w.heap.size w w':=Any.strings_Join Tryz.lays156 Tryz.Builder_Extra_156 bk o c xs sep w hcells hbk hN hcap hlen
def Tryz.lays137_ren:Go.Shelf.Ren:=⟨λ|137=>211|217=>250|266=>288|n=>n,λ|9=>9|5=>5|3=>3|n=>n,λ|n=>n⟩
theorem Tryz.lays137:Go.Proofs.Lays.n137 Tryz.prog Tryz.lays137_ren:=by repeat' first|(intros;kernel_rfl)|decide|constructor
open Go.RowKit in
theorem Tryz.strings_IndexByte(s:ByteArray)(c:Int)(w:World):
 Calls Tryz.prog 211 #[.string s,.int .u8 c] w λe w'=>e=.returned (.int .i64 (Lib.indexByte s.data.toList c.toNat.toUInt8))/\w'=w:=Any.strings_IndexByte Tryz.lays137 s c w
def Tryz.lays103_ren:Go.Shelf.Ren:=⟨λ|103=>231|210=>268|206=>298|n=>n,λ|9=>9|4=>4|24=>127|3=>3|n=>n,λ|n=>n⟩
theorem Tryz.lays103:Go.Proofs.Lays.n103 Tryz.prog Tryz.lays103_ren:=by repeat' first|(intros;kernel_rfl)|decide|constructor
open Go.RowKit in
theorem Tryz.strings_CutPrefix(s p:ByteArray)(w:World):
 Calls Tryz.prog 231 #[.string s,.string p] w λe w'=>e=.returned (.tuple #[.string ⟨(Lib.trimPrefix s.data.toList p.data.toList).toArray⟩,.bool (Lib.hasPrefix s.data.toList p.data.toList)])/\w'=w:=Any.strings_CutPrefix Tryz.lays103 s p w
def Tryz.laysM171_ren:Go.Shelf.Ren:=⟨λ|171=>240|243=>281|246=>309|283=>335|284=>336|285=>337|286=>338|129=>145|317=>349|318=>350|319=>351|320=>352|337=>355|338=>356|n=>n,λ|3=>3|9=>9|2=>2|4=>4|171=>436|0=>0|53=>253|37=>298|5=>5|173=>438|212=>454|51=>251|20=>20|213=>455|46=>185|232=>457|233=>458|n=>n,λ|17=>6|18=>7|19=>8|n=>n⟩
theorem Tryz.laysM171:Go.Proofs.LaysM.n171 Tryz.prog Tryz.laysM171_ren:=by repeat' first|(intros;kernel_rfl)|decide|constructor
def Tryz.laysC172_ren:Go.Shelf.Ren:=⟨λ|172=>238|244=>278|245=>279|247=>304|279=>305|280=>306|281=>307|282=>308|287=>332|316=>333|171=>240|205=>334|321=>347|322=>348|243=>281|246=>309|283=>335|284=>336|285=>337|286=>338|129=>145|317=>349|318=>350|319=>351|320=>352|337=>355|338=>356|n=>n,λ|9=>9|3=>3|75=>304|76=>305|4=>4|5=>5|167=>403|37=>298|0=>0|85=>404|2=>2|168=>406|53=>253|175=>431|46=>185|210=>434|127=>347|145=>452|143=>450|21=>21|171=>436|173=>438|212=>454|51=>251|20=>20|213=>455|232=>457|233=>458|80=>214|n=>n,λ|15=>4|16=>5|17=>6|18=>7|19=>8|n=>n⟩
theorem Tryz.laysC172:Go.Proofs.LaysC.n172 Tryz.prog Tryz.laysC172_ren:=by repeat' first|(intros;kernel_rfl)|decide|constructor
open Go.RowKit in
theorem Tryz.strconv_Atoi_ok(s:ByteArray)(hmax:s.size<=9223372036854775806)(v:Int)(h:Lib.atoiAll s.data.toList=.ok v)(w:World):
 Calls Tryz.prog 238 #[.string s] w λe w'=>e=.returned (.tuple #[.int .i64 v,.nilIface])/\(w'=w\/∃t,w'=Lib.bytesWorld w 5 t):=Any.strconv_Atoi_ok Tryz.laysC172 s hmax v h w
open Go.RowKit in
theorem Tryz.strconv_Atoi_syntax(s:ByteArray)(hlim:s.size<=281474976710656)(h:Lib.atoiAll s.data.toList=Lib.atoiAll [])(ev:Value)(w:World)(hv:w.cell? ⟨4,0,none⟩=some ev)(hev:ev=.nilIface\/∃te pe,ev=.iface te pe):
 Calls Tryz.prog 238 #[.string s] w λe w'=>∃N,e=.returned (.tuple #[.int .i64 (0),.iface 406 (.pointer (some ⟨N,0,none⟩))])/\w.heap.size<=N/\w'.heap[N]?=some (.cells #[.string ⟨#[65,116,111,105]⟩,.string s,ev] 434 (0,0))/\Below w.heap.size w w':=Any.strconv_Atoi_syntax Tryz.laysC172 s hlim h ev w hv hev
open Go.RowKit in
theorem Tryz.strconv_Atoi_range(s:ByteArray)(hlim:s.size<=281474976710656)(h:Lib.atoiAll s.data.toList=.range)(ev:Value)(w:World)(hv:w.cell? ⟨5,0,none⟩=some ev)(hev:ev=.nilIface\/∃te pe,ev=.iface te pe):
 Calls Tryz.prog 238 #[.string s] w λe w'=>∃N,e=.returned (.tuple #[.int .i64 (Lib.atoiSat s.data.toList),.iface 406 (.pointer (some ⟨N,0,none⟩))])/\w.heap.size<=N/\w'.heap[N]?=some (.cells #[.string ⟨#[65,116,111,105]⟩,.string s,ev] 434 (0,0))/\Below w.heap.size w w':=Any.strconv_Atoi_range Tryz.laysC172 s hlim h ev w hv hev
def Tryz.lays145_ren:Go.Shelf.Ren:=⟨λ|145=>223|220=>263|219=>297|217=>250|225=>326|224=>327|267=>328|266=>288|314=>346|n=>n,λ|9=>9|4=>4|59=>333|3=>3|5=>5|46=>185|146=>410|51=>251|n=>n,λ|1=>0|n=>n⟩
theorem Tryz.lays145:Go.Proofs.Lays.n145 Tryz.prog Tryz.lays145_ren:=by repeat' first|(intros;kernel_rfl)|decide|constructor
open Go.RowKit Go.Lib in
theorem Tryz.strings_Cut(s sep:ByteArray)(m:Int)(w:World)(hs:s.size<4294967281)(hm:w.cell? ⟨0,0,none⟩=some (.int .i64 m)):
 Calls Tryz.prog 223 #[.string s,.string sep] w λe w'=>e=.returned (.tuple #[.string ⟨(Lib.cut s.data.toList sep.data.toList).1.toArray⟩,.string ⟨(Lib.cut s.data.toList sep.data.toList).2.1.toArray⟩,.bool (Lib.cut s.data.toList sep.data.toList).2.2])/\∃n,w'=w.drewN n:=Any.strings_Cut Tryz.lays145 s sep m w hs hm
def Tryz.lays149_ren:Go.Shelf.Ren:=⟨λ|149=>227|222=>264|n=>n,λ|9=>9|5=>5|3=>3|4=>4|n=>n,λ|n=>n⟩
theorem Tryz.lays149:Go.Proofs.Lays.n149 Tryz.prog Tryz.lays149_ren:=by repeat' first|(intros;kernel_rfl)|decide|constructor
open Go.RowKit Go.Lib in
theorem Tryz.strings_LastIndexByte(s:ByteArray)(c:Int)(hs:s.size<4611686018427387904)(w:World):
 Calls Tryz.prog 227 #[.string s,.int .u8 c] w λe w'=>e=.returned (.int .i64 (Lib.lastIndexByte s c))/\w'=w:=Any.strings_LastIndexByte Tryz.lays149 s c hs w
def Tryz.lays99_ren:Go.Shelf.Ren:=⟨λ|99=>283|206=>298|n=>n,λ|9=>9|4=>4|3=>3|n=>n,λ|n=>n⟩
theorem Tryz.lays99:Go.Proofs.Lays.n99 Tryz.prog Tryz.lays99_ren:=by repeat' first|(intros;kernel_rfl)|decide|constructor
open Go.RowKit Go.Lib in
theorem Tryz.strings_HasPrefix(s p:ByteArray)(w:World):
 Calls Tryz.prog 283 #[.string s,.string p] w λe w'=>e=.returned (.bool (Lib.hasPrefix s.data.toList p.data.toList))/\w'=w:=Any.strings_HasPrefix Tryz.lays99 s p w
def Tryz.lays101_ren:Go.Shelf.Ren:=⟨λ|101=>228|208=>265|206=>298|n=>n,λ|9=>9|4=>4|3=>3|n=>n,λ|n=>n⟩
theorem Tryz.lays101:Go.Proofs.Lays.n101 Tryz.prog Tryz.lays101_ren:=by repeat' first|(intros;kernel_rfl)|decide|constructor
open Go.RowKit Go.Lib in
theorem Tryz.strings_TrimPrefix(s p:ByteArray)(w:World):
 Calls Tryz.prog 228 #[.string s,.string p] w λe w'=>e=.returned (.string ⟨(Lib.trimPrefix s.data.toList p.data.toList).toArray⟩)/\w'=w:=Any.strings_TrimPrefix Tryz.lays101 s p w
def Tryz.lays146_ren:Go.Shelf.Ren:=⟨λ|146=>249|221=>287|268=>313|138=>314|143=>315|195=>339|197=>273|218=>340|219=>297|260=>301|217=>250|225=>326|224=>327|267=>328|266=>288|314=>346|n=>n,λ|9=>9|31=>28|3=>3|4=>4|0=>0|105=>373|21=>21|5=>5|46=>185|119=>424|139=>427|138=>426|146=>410|51=>251|n=>n,λ|1=>0|3=>2|4=>3|n=>n⟩
theorem Tryz.lays146:Go.Proofs.Lays.n146 Tryz.prog Tryz.lays146_ren:=by repeat' first|(intros;kernel_rfl)|decide|constructor
open Go.RowKit Go.Lib in
theorem Tryz.strings_Split(s sep:ByteArray)(m:Int)(w:World)(hs:s.size<4294967281)(hm:w.cell? ⟨0,0,none⟩=some (.int .i64 m))(h1:1<=sep.size):
 Calls Tryz.prog 249 #[.string s,.string sep] w λe w'=>
  e=.returned (.slice (some ⟨w.heap.size,0,none⟩) (Lib.countB s sep+1) (Lib.countB s sep+1))/\w'=w.alloc (.cells ((Lib.splitB sep 0 (Lib.countB s sep) s).map Value.string).toArray 9):=Any.strings_Split Tryz.lays146 oa s sep m w hs hm h1
def Tryz.lays105_ren:Go.Shelf.Ren:=⟨λ|105=>241|212=>282|99=>283|165=>233|166=>187|170=>284|169=>190|263=>310|264=>311|206=>298|240=>239|241=>272|276=>280|277=>300|n=>n,λ|9=>9|3=>3|4=>4|20=>20|0=>0|46=>185|109=>382|5=>5|72=>300|76=>305|51=>251|146=>410|53=>253|148=>412|70=>297|37=>298|75=>304|127=>347|164=>380|80=>214|n=>n,λ|n=>n⟩
theorem Tryz.lays105:Go.Proofs.Lays.n105 Tryz.prog Tryz.lays105_ren:=by repeat' first|(intros;kernel_rfl)|decide|constructor
theorem Tryz.Builder_Extra_105:Builder.Extra Tryz.prog Tryz.lays105_ren:=by repeat' first|(intros;kernel_rfl)|decide|constructor
open Go.RowKit Go.Lib in
theorem Tryz.strings_Repeat(s:ByteArray)(c:Nat)(w:World)(hc:c<=9223372036854775807)(hlen:s.size*c<=140737488355328):
 Calls Tryz.prog 241 #[.string s,.int .i64 c] w λe w'=>e=.returned (.string ⟨(Lib.repeatL s.data.toList c).toArray⟩)/\Below w.heap.size w w':=Any.strings_Repeat Tryz.lays105 Tryz.Builder_Extra_105 s c w hc hlen
def Tryz.lays229_ren:Go.Shelf.Ren:=⟨λ|229=>269|n=>n,λ|9=>9|40=>372|31=>28|152=>395|3=>3|0=>0|4=>4|21=>21|154=>397|n=>n,λ|n=>n⟩
theorem Tryz.lays229:Go.Proofs.Lays.n229 Tryz.prog Tryz.lays229_ren:=by repeat' first|(intros;kernel_rfl)|decide|constructor
open Go.RowKit Go.Lib in
theorem Tryz.strings_ToLower_any(s:ByteArray)(w:World)(hs:s.size<35184372088832)(hV:CaseVar 1 caseA w)(hT:Lib.Utf8Tabs 2 3 w):
 Calls Tryz.prog 175 #[.string s] w λe w'=>e=.returned (.string ⟨(Lib.toLowerD s.data.toList).toArray⟩)/\Below w.heap.size w w':=Any.strings_ToLower_any Tryz.lays159 Tryz.Builder_Extra_159 s w hs hV hT
end Go.Proofs
namespace Go.Ev.Pv
open Go.Proofs Go.RowKit Go.Lib
def HoldsTab(w:World)(g:Nat)(k:IntKind)(zs:List Int):Prop:=∃el fz,w.heap[g]?=some (.cells (zs.map λz=>Value.int k z).toArray el fz)
theorem ABv{P:Program}{w:World}{n:String}{g:Nat}{k:IntKind}{zs:List Int}(hg:P.globalNamed n=some g)(h:HoldsTab w g k zs):Lib.TabIs P w n k zs:=by
 obtain⟨el,fz,h⟩:=h;unfold Lib.TabIs World.var?;rw[hg];simp only[A1,h]
theorem pM{w:World}{b:Nat}{o:Go.Obj}(h:w.heap[b]?=some o):b<w.heap.size:=(BC.1 h).1
def Facts(w:World):Prop:=
 HoldsTab w 6 .u64 Lib.pow10Tab/\CaseVar 1 caseA w/\Lib.Utf8Tabs 2 3 w/\(∃m,w.cell? ⟨0,0,none⟩=some (.int .i64 m))/\
 (∃ev,w.cell? ⟨4,0,none⟩=some ev/\(ev=.nilIface\/∃te pe,ev=.iface te pe))/\(∃ev,w.cell? ⟨5,0,none⟩=some ev/\(ev=.nilIface\/∃te pe,ev=.iface te pe))
theorem V9{w:World}{b o:Nat}{v:Value}(h:w.cell? ⟨b,o,none⟩=some v):b<w.heap.size:=by
 apply BY;intro hn;simp only[World.cell?,Array.getElem?_eq_none (DJ hn)]at h;cases h
theorem Facts.below{w w':World}(h:Facts w)(hb:Below w.heap.size w w'):Facts w':=by
 obtain⟨h1,h2,h3,⟨m,h4⟩,⟨e1,h5,h5'⟩,e2,h6,h6'⟩:=h;exact⟨(let ⟨el,fz,h1⟩:=h1;⟨el,fz,(hb.block 6 (pM h1)).trans h1⟩),CaseVar_below h2 hb,Utf8Tabs_below h3 hb,⟨m,(hb.cell (V9 h4)).trans h4⟩,⟨e1,(hb.cell (V9 h5)).trans h5,h5'⟩,e2,(hb.cell (V9 h6)).trans h6,h6'⟩
theorem Facts.later{w w':World}(h:Facts w)(hb:∀b,b<w.heap.size->w'.heap[b]?=w.heap[b]?):Facts w':=by
 have hs:w.heap.size<=w'.heap.size:=by
  apply BY;intro hn;have h1:=hb w'.heap.size o5;rw[Array.getElem?_eq_none (AB _),AY o5]at h1;cases h1
 have hB:Below w.heap.size w {w' with os:=w.os,tape:=w.tape,output:=w.output}:=⟨rfl,rfl,rfl,hs,hb⟩;have h2:=h.below hB;exact h2
noncomputable instance:Pins:=⟨Tryz.prog,λw I=>∃w0,Facts w0/\∀b,b<w0.heap.size->I.obj b/\w.heap[b]?=w0.heap[b]?,
 λ⟨w0,h1,h2⟩ e=>⟨w0,h1,λb hb=>⟨(e.obj b (h2 b hb).1).1,(e.obj b (h2 b hb).1).2.trans (h2 b hb).2⟩⟩⟩
theorem facts{w:World}{I:Im}(h:GM w I):Facts w:=let ⟨_,h1,h2⟩:=h.2.2;h1.later λb hb=>(h2 b hb).2
theorem HV{f:Nat}{fn:Func}(h:Tryz.prog.funcs[f]?=some fn)(hn:(fn.name== "runtime.NumGoroutine")=false)(hb:fn.body=some (ET fn)):F6 Tryz.prog f:=⟨fn,_,h,hn,hb⟩
def ABw:FSpec:=⟨[.val (.int .i64)],[.val .str],strconv_Itoa,true⟩
theorem LQ:F6 Go.Proofs.Tryz.prog 240/\FunOK Go.Proofs.Tryz.prog 240 ABw:=by
 refine⟨HV Tryz.func240 oa oa,FunOK.flat1 (t:=.str) rfl rfl (λargs=>by cases args<;>rfl) λw I v args bs hm hsh r hr=>?_⟩;obtain⟨rfl,x,rfl,hx⟩:=pL hsh;obtain⟨rfl,h0,h1⟩:=dF hx;cases hr;refine⟨rfl,.string ⟨(NP v).toArray⟩,λw' I'=>KG (LP (AU (xF v) od)),?_⟩;rw[ABR h0 h1];refine(Any.strconv_Itoa Tryz.laysM171 v h0 h1 w (ABv (g:=6) oa (facts hm).1)).mono λe w' ⟨he,k,os,hw⟩=>⟨he,?_,λ_=>?_⟩
 .rw[hw];exact Lib.below_grow _ w (AB _) k os
 .rw[hw];exact Nat.le_add_right _ _
theorem P2{w w':World}{D:Prop}(h:w'=w):Below w.heap.size w w'/\(D->w.drawn<=w'.drawn):=by
 subst h;exact⟨Below.refl _ _,λ_=>AB _⟩
theorem A10{w w':World}{D:Prop}(h:∃n,w'=w.drewN n):Below w.heap.size w w'/\(D->w.drawn<=w'.drawn):=by
 obtain⟨n,rfl⟩:=h;exact⟨⟨rfl,rfl,rfl,AB _,λ_ _=>rfl⟩,λ_=>Nat.le_add_right _ _⟩
theorem VA{a:DW}{n:Nat}(h:a.length<n):(⟨a.toArray⟩:ByteArray).size<n:=by rw[K5];exact h
theorem ABx{a:DW}{k n:Nat}(h:a.length*k<=n):(⟨a.toArray⟩:ByteArray).size*k<=n:=by rw[K5];exact h
theorem ABy(s p:DW):(Lib.cut s p).1.length<=s.length/\(Lib.cut s p).2.1.length<=s.length:=by
 unfold Lib.cut;split
 .simp only[B4,BP];omega
 .simp
theorem ABz{s:DW}{k:Nat}(h:s.length*k<=140737488355328):(Lib.repeatL s k).length<=281474976710656:=by rw[Lib.repeatL_length,CU];omega
theorem VB{n:Int}(h1:-9223372036854775808<=n)(h2:n<=9223372036854775807):G6 .i64 n:=⟨h1,h2⟩
theorem AC0{n:Int}(h:G6 .i64 n):n<=9223372036854775807:=h.2
theorem AC1(c:UInt8):∀l:List UInt8,Lib.indexByte l c<=l.length:=by
 intro l;induction l with
 |nil=>simp[Lib.indexByte]
 |cons b l ih=>
  simp only[Lib.indexByte,AF]
  repeat' split
  all_goals omega
def AC2:FSpec:=⟨[.val .str,.val (.int .u8)],[.val (.int .i64)],strings_IndexByte,true⟩
theorem RW:F6 Go.Proofs.Tryz.prog 211/\FunOK Go.Proofs.Tryz.prog 211 AC2:=by
 refine⟨HV Tryz.func211 oa oa,FunOK.flat1 (t:=.int .i64) rfl rfl (λargs=>by rcases args with _|⟨_,_|⟨_,_⟩⟩<;>rfl) λw I v args bs hm hsh r hr=>?_⟩;obtain⟨rfl,x,y,rfl,hx,hy⟩:=MZ hsh;obtain⟨rfl,h0⟩:=IN hx;obtain⟨rfl,h1⟩:=dF hy;obtain⟨h2,hr⟩:=LM hr;cases hr;refine⟨rfl,_,λw' I'=>KG (dG (k:=.i64) (n:=Lib.indexByte v.1 v.2.toNat.toUInt8) ?_),?_⟩
 .have k1:=AC1 v.2.toNat.toUInt8 v.1;have k2:=Lib.indexByte_ge v.1 v.2.toNat.toUInt8;exact VB o5 o5
 .exact(Tryz.strings_IndexByte ⟨v.1.toArray⟩ v.2 w).mono λe w' ⟨he,hw⟩=>⟨he,P2 hw⟩
theorem AC3(s:ByteArray)(c:Int):∀k,-1<=Lib.lastIdx s c k/\Lib.lastIdx s c k<=k:=by
 intro k;induction k with
 |zero=>simp[Lib.lastIdx]
 |succ k ih=>
  simp only[Lib.lastIdx];split<;>omega
def AC4:FSpec:=⟨[.val .str,.val (.int .u8)],[.val (.int .i64)],strings_LastIndexByte,true⟩
theorem AC5:F6 Go.Proofs.Tryz.prog 227/\FunOK Go.Proofs.Tryz.prog 227 AC4:=by
 refine⟨HV Tryz.func227 oa oa,FunOK.flat1 (t:=.int .i64) rfl rfl (λargs=>by rcases args with _|⟨_,_|⟨_,_⟩⟩<;>rfl) λw I v args bs hm hsh r hr=>?_⟩;obtain⟨rfl,x,y,rfl,hx,hy⟩:=MZ hsh;obtain⟨rfl,h0⟩:=IN hx;obtain⟨rfl,h1⟩:=dF hy;obtain⟨h2,hr⟩:=LM hr;cases hr;have hsz:(⟨v.1.toArray⟩:ByteArray).size=v.1.length:=K5 v.1;refine⟨rfl,_,λw' I'=>KG (dG (k:=.i64) (n:=Lib.lastIndexByte ⟨v.1.toArray⟩ v.2) ?_),?_⟩
 .have k1:=AC3 ⟨v.1.toArray⟩ v.2 (⟨v.1.toArray⟩:ByteArray).size;have k2:((⟨v.1.toArray⟩:ByteArray).size:Int)=(v.1.length:Nat):=by rw[hsz]
  unfold Lib.lastIndexByte;exact VB o5 o5
 .exact(Tryz.strings_LastIndexByte ⟨v.1.toArray⟩ v.2 (VA h2) w).mono λe w' ⟨he,hw⟩=>⟨he,P2 hw⟩
def AC6:FSpec:=⟨[.val .str,.val .str],[.val .bool],strings_HasPrefix,true⟩
theorem AC7:F6 Go.Proofs.Tryz.prog 283/\FunOK Go.Proofs.Tryz.prog 283 AC6:=by
 refine⟨HV Tryz.func283 oa oa,FunOK.flat1 (t:=.bool) rfl rfl (λargs=>by rcases args with _|⟨_,_|⟨_,_⟩⟩<;>rfl) λw I v args bs hm hsh r hr=>?_⟩;obtain⟨rfl,x,y,rfl,hx,hy⟩:=MZ hsh;obtain⟨rfl,h0⟩:=IN hx;obtain⟨rfl,h1⟩:=IN hy;cases hr;exact⟨rfl,_,λw' I'=>KG pK,(Tryz.strings_HasPrefix ⟨v.1.toArray⟩ ⟨v.2.toArray⟩ w).mono λe w' ⟨he,hw⟩=>⟨he,P2 hw⟩⟩
theorem trimPrefix_len(s p:DW):(Lib.trimPrefix s p).length<=s.length:=by
 unfold Lib.trimPrefix;split
 .simp
 .exact AB _
def AC8:FSpec:=⟨[.val .str,.val .str],[.val .str],strings_TrimPrefix,true⟩
theorem AC9:F6 Go.Proofs.Tryz.prog 228/\FunOK Go.Proofs.Tryz.prog 228 AC8:=by
 refine⟨HV Tryz.func228 oa oa,FunOK.flat1 (t:=.str) rfl rfl (λargs=>by rcases args with _|⟨_,_|⟨_,_⟩⟩<;>rfl) λw I v args bs hm hsh r hr=>?_⟩;obtain⟨rfl,x,y,rfl,hx,hy⟩:=MZ hsh;obtain⟨rfl,h0⟩:=IN hx;obtain⟨rfl,h1⟩:=IN hy;cases hr;exact⟨rfl,_,λw' I'=>KG (LP (AU (trimPrefix_len v.1 v.2) h0)),(Tryz.strings_TrimPrefix ⟨v.1.toArray⟩ ⟨v.2.toArray⟩ w).mono λe w' ⟨he,hw⟩=>⟨he,P2 hw⟩⟩
def ACA:FSpec:=⟨[.val .str,.val .str],[.val .str,.val .bool],strings_CutPrefix,true⟩
theorem ACB:F6 Go.Proofs.Tryz.prog 231/\FunOK Go.Proofs.Tryz.prog 231 ACA:=by
 refine⟨HV Tryz.func231 oa oa,FunOK.given λw I v args bs hm hsh r hr=>?_⟩;obtain⟨rfl,x,y,rfl,hx,hy⟩:=MZ hsh;obtain⟨rfl,h0⟩:=IN hx;obtain⟨rfl,h1⟩:=IN hy;cases hr;refine⟨rfl,(Tryz.strings_CutPrefix ⟨v.1.toArray⟩ ⟨v.2.toArray⟩ w).mono λe w' ⟨he,hw⟩=>⟨_,[_,_],NV,he,rfl,rfl,(P2 (D:=True) hw).1,λ_=>(P2 hw).2 trivial,P1,?_⟩⟩;exact ABt (a:=.str) (b:=.bool) (x:=(Lib.trimPrefix v.1 v.2,Lib.hasPrefix v.1 v.2)) (LP (AU (trimPrefix_len v.1 v.2) h0)) pK
def ACC:FSpec:=⟨[.val .str,.val .str],[.val .str,.val .str,.val .bool],strings_Cut,true⟩
theorem A11:F6 Go.Proofs.Tryz.prog 223/\FunOK Go.Proofs.Tryz.prog 223 ACC:=by
 refine⟨HV Tryz.func223 oa oa,FunOK.given λw I v args bs hm hsh r hr=>?_⟩;obtain⟨rfl,x,y,rfl,hx,hy⟩:=MZ hsh;obtain⟨rfl,h0⟩:=IN hx;obtain⟨rfl,h1⟩:=IN hy;obtain⟨h2,hr⟩:=LM hr;cases hr;obtain⟨m,hmm⟩:=(facts hm).2.2.2.1;refine⟨rfl,(Tryz.strings_Cut ⟨v.1.toArray⟩ ⟨v.2.toArray⟩ m w (VA h2) hmm).mono λe w' ⟨he,hw⟩=>⟨_,[_,_,_],NV,he,rfl,rfl,(A10 (D:=True) hw).1,λ_=>(A10 hw).2 trivial,P1,?_⟩⟩;have hl:=ABy v.1 v.2;exact ABu (a:=.str) (b:=.str) (c:=.bool) (x:=Lib.cut v.1 v.2) (LP (AU hl.1 h0)) (LP (AU hl.2 h0)) pK
def ACD:FSpec:=⟨[.val .str,.val (.int .i64)],[.val .str],strings_Repeat,false⟩
theorem ACE:F6 Go.Proofs.Tryz.prog 241/\FunOK Go.Proofs.Tryz.prog 241 ACD:=by
 refine⟨HV Tryz.func241 oa oa,FunOK.flat1 (t:=.str) rfl rfl (λargs=>by rcases args with _|⟨_,_|⟨_,_⟩⟩<;>rfl) λw I v args bs hm hsh r hr=>?_⟩;obtain⟨rfl,x,y,rfl,hx,hy⟩:=MZ hsh;obtain⟨rfl,h0⟩:=IN hx;obtain⟨rfl,h1⟩:=dF hy;obtain⟨⟨h2,h3⟩,hr⟩:=LM hr;cases hr;have hn:((v.2.toNat:Nat):Int)=v.2:=Int.toNat_of_nonneg h2
 have hk:v.2.toNat<=9223372036854775807:=by
  have:=AC0 h1;omega
 have hlen:=ABz h3;refine⟨rfl,_,λw' I'=>KG (LP hlen),?_⟩;have:=Tryz.strings_Repeat ⟨v.1.toArray⟩ v.2.toNat w hk (ABx h3);rw[hn]at this;exact this.mono λe w' ⟨he,hw⟩=>⟨he,hw,λh=>oe⟩
def ACF:FSpec:=⟨[.val .str],[.val .str],U5,false⟩
theorem A12:F6 Go.Proofs.Tryz.prog 175/\FunOK Go.Proofs.Tryz.prog 175 ACF:=by
 refine⟨HV Tryz.func175 oa oa,FunOK.flat1 (t:=.str) rfl rfl (λargs=>by cases args<;>rfl) λw I v args bs hm hsh r hr=>?_⟩;obtain⟨rfl,x,rfl,hx⟩:=pL hsh;obtain⟨rfl,h0⟩:=IN hx;obtain⟨h2,hr⟩:=LM hr;obtain⟨rfl,h3⟩:=str?_some hr;exact⟨rfl,_,λw' I'=>KG (LP h3),(Tryz.strings_ToLower_any ⟨v.toArray⟩ w (VA h2) (facts hm).2.1 (facts hm).2.2.1).mono λe w' ⟨he,hw⟩=>⟨he,hw,λh=>oe⟩⟩
theorem ACG(w:World)(t:TypeId)(s:ByteArray):Below w.heap.size w (Lib.bytesWorld w t s):=by
 unfold Lib.bytesWorld;exact Lib.below_freeze (((Below.refl _ _).drew).alloc (AB _) _) (p:=⟨w.heap.size,_,none⟩) (AB _) _
def ACH:FSpec:=⟨[.val .str],[.val (.int .i64),.any],YT,false⟩
theorem pN{P:Program}{w:World}{I:Im}{n:Int}(h:G6 .i64 n)(v:Value):ShL P w I [.val (.int .i64),.any] (n,()) [.int .i64 n,v] []:=
 ⟨_,_,[],[],rfl,rfl,⟨dG h,rfl⟩,v,rfl,rfl⟩
theorem ACI{s:DW}{v:Int}(h:Lib.atoiAll s=.ok v):G6 .i64 v:=by
 unfold Lib.atoiAll at h;split at h
 .cases h
 .simp only at h;split at h
  .cases h
  .cases h
  .rename_i u hu;split at h
   .cases h
   .split at h
    .cases h
    .cases h;split<;>exact VB o5 o5
theorem ACJ(s:DW):G6 .i64 (Lib.atoiSat s):=by
 unfold Lib.atoiSat;split<;>exact VB od od
theorem strconv_Atoi_ok:F6 Go.Proofs.Tryz.prog 238/\FunOK Go.Proofs.Tryz.prog 238 ACH:=by
 refine⟨HV Tryz.func238 oa oa,FunOK.given λw I v args bs hm hsh r hr=>?_⟩;obtain⟨rfl,x,rfl,hx⟩:=pL hsh;obtain⟨rfl,h0⟩:=IN hx;obtain⟨h2,hr⟩:=LM hr;have hs:(⟨Array.mk v⟩:ByteArray).size<=281474976710656:=by have:=VA (a:=v) (n:=281474976710657) o5;exact Nat.le_of_lt_succ this
 refine⟨rfl,?_⟩;obtain⟨_,_,_,_,⟨e5,h5,h5'⟩,e6,h6,h6'⟩:=facts hm;cases hn:Lib.atoiAll v
 .rename_i n;rw[hn]at hr;dsimp only at hr;cases hr;refine(Tryz.strconv_Atoi_ok ⟨v.toArray⟩ (AU hs od) n hn w).mono λe w' ⟨he,hw⟩=>⟨_,[_,_],NV,he,rfl,rfl,?_,(λh=>oe),P1,pN (ACI hn) _⟩;rcases hw with rfl|⟨t,rfl⟩
  .exact Below.refl _ _
  .exact ACG _ _ _
 .rw[hn]at hr;dsimp only at hr;cases hr;exact(Tryz.strconv_Atoi_syntax ⟨v.toArray⟩ hs hn e5 w h5 h5').mono λe w' ⟨N,he,_,_,hw⟩=>⟨_,[_,_],NV,he,rfl,rfl,hw,(λh=>oe),P1,pN (VB od od) _⟩
 .rw[hn]at hr;dsimp only at hr;cases hr;exact(Tryz.strconv_Atoi_range ⟨v.toArray⟩ hs hn e6 w h6 h6').mono λe w' ⟨N,he,_,_,hw⟩=>⟨_,[_,_],NV,he,rfl,rfl,hw,(λh=>oe),P1,pN (ACJ v) _⟩
theorem A13{P:Program}{w:World}{I:Im}{X:Nat->Nat->Prop}{b cap:Nat}{xs:List DW}{cells:Array Value}{el:TypeId}{fz:Nat×Nat}(hb:w.heap[b]?=some (.cells cells el fz))(hlen:xs.length<=cap)(hl:xs.length<=281474976710656)
 (hc:∀(i:Nat) x,xs[i]?=some x->cells[i]?=some (.string ⟨x.toArray⟩))(hs:∀x∈xs,x.length<=281474976710656)(hX:∀o,o<xs.length->X b o):
 VRel w (RV I X) (.slice .str) xs (.slice (some ⟨b,0,none⟩) xs.length cap):=by
 refine⟨_,rfl,_,_,rfl,⟨hlen,hl⟩,(λh=>oe),λad had=>?_⟩;cases had;refine⟨λ_=>rfl,λi x hx=>⟨[.string ⟨(show DW from x).toArray⟩],⟨rfl,λj hj=>?_⟩,rfl,hs x (B5 hx)⟩⟩;have hj0:j=0:=by have:j<1:=hj;omega
 subst hj0;have e:(0+i*Ty.str.sz+0)=i:=by show 0+i*1+0=i;omega
 have hi:i<xs.length:=(A8.1 hx).1;refine⟨.inr ?_,?_⟩
 .rw[e];exact hX i hi
 .show w.cell? ⟨b,0+i*Ty.str.sz+0,none⟩=_;rw[e];simp only[World.cell?,hb,hc i x hx];rfl
theorem ACK(sep:ByteArray)(h1:1<=sep.size):∀(k:Nat) (s:ByteArray),Lib.countB s sep=k->(Lib.splitB sep 0 k s).length=k+1:=by
 intro k;induction k with
 |zero=>intro s _;rfl
 |succ k ih=>
  intro s hk;by_cases hm:Lib.indexB s sep= -1
  .rw[Lib.countB_miss s sep hm]at hk;cases hk
  .have hge:=Lib.index_ge s.data.toList sep.data.toList;obtain⟨i,hi⟩:∃i:Nat,Lib.indexB s sep=i:=⟨(Lib.indexB s sep).toNat,by have:-1<=Lib.indexB s sep:=hge;omega⟩;rw[Lib.splitB_hit sep 0 k s i hi,AF,ih];have:=Lib.countB_hit s sep i h1 hi;omega
theorem ACL(sep:ByteArray)(n:Nat):∀(k:Nat) (s:ByteArray),s.size<=n->∀x∈Lib.splitB sep 0 k s,x.size<=n:=by
 intro k;induction k with
 |zero=>intro s hs x hx;rw[Lib.splitB_zero,AN]at hx;subst hx;exact hs
 |succ k ih=>
  intro s hs x hx;unfold Lib.splitB at hx;split at hx
  .rw[AN]at hx;subst hx;exact hs
  .rcases A_.1 hx with rfl|hx
   .rw[C_];omega
   .exact ih _ (by rw[C_];omega) x hx
def ACM:FSpec:=⟨[.val .str,.val .str],[.val (.slice .str)],strings_Split,true⟩
theorem A14:F6 Go.Proofs.Tryz.prog 249/\FunOK Go.Proofs.Tryz.prog 249 ACM:=by
 refine⟨HV Tryz.func249 oa oa,FunOK.given λw I v args bs hm hsh r hr=>?_⟩;obtain⟨rfl,x,y,rfl,hx,hy⟩:=MZ hsh;obtain⟨rfl,h0⟩:=IN hx;obtain⟨rfl,h1⟩:=IN hy;obtain⟨⟨h2,h3⟩,hr⟩:=LM hr;cases hr;obtain⟨m,hmm⟩:=(facts hm).2.2.2.1;have h3':1<=(⟨Array.mk v.2⟩:ByteArray).size:=h3;have hlen:=ACK ⟨Array.mk v.2⟩ h3' _ ⟨Array.mk v.1⟩ rfl;refine⟨rfl,(Tryz.strings_Split ⟨v.1.toArray⟩ ⟨v.2.toArray⟩ m w (VA h2) hmm h3').mono λe w' ⟨he,hw⟩=>?_⟩
 have hs1:w'.heap[w.heap.size]?=some (.cells ((Lib.splitB ⟨v.2.toArray⟩ 0 (Lib.countB ⟨v.1.toArray⟩ ⟨v.2.toArray⟩) ⟨v.1.toArray⟩).map Value.string).toArray 9 (0,0)):=by
  rw[hw];show(w.heap.push _)[w.heap.size]?=_;rw[CJ]
 have hbl:Below w.heap.size w w':=by rw[hw];exact(Below.refl _ _).alloc (AB _) _
 refine⟨_,[_],λb o=>b=w.heap.size,he,rfl,rfl,hbl,?_,?_,KG ?_⟩
 .intro _;rw[hw];exact AB _
 .rintro b o rfl;exact⟨AB _,pM hs1⟩
 .have hcnt:Lib.countB ⟨Array.mk v.1⟩ ⟨Array.mk v.2⟩<=v.1.length+1:=Lib.count_le v.1 v.2
  have:=A13 (P:=Tryz.prog) (I:=I) (X:=λb o=>b=w.heap.size) (xs:=(Lib.splitB ⟨v.2.toArray⟩ 0 (Lib.countB ⟨v.1.toArray⟩ ⟨v.2.toArray⟩) ⟨v.1.toArray⟩).map λb=>b.data.toList)
   (cap:=Lib.countB ⟨v.1.toArray⟩ ⟨v.2.toArray⟩+1) hs1 ?_ ?_ ?_ ?_ (λo _=>rfl)
  .rw[B2]at this;rw[hlen]at this;exact this
  .rw[B2];exact Nat.le_of_eq hlen
  .rw[B2];refine AU (Nat.le_of_eq hlen) ?_;have h2':v.1.length<4294967281:=h2;omega
  .intro i x hx;rw[AV]at hx;cases hb:(Lib.splitB ⟨v.2.toArray⟩ 0 (Lib.countB ⟨v.1.toArray⟩ ⟨v.2.toArray⟩) ⟨v.1.toArray⟩)[i]? with
   |none=>rw[hb]at hx;cases hx
   |some b=>rw[hb]at hx;cases hx;simp[hb]
  .intro x hx;obtain⟨b,hb,rfl⟩:=C2.1 hx;have:=ACL ⟨v.2.toArray⟩ v.1.length _ ⟨v.1.toArray⟩ (Nat.le_of_eq (K5 v.1)) b hb;have e:b.data.toList.length=b.size:=rfl;rw[e];exact AU this h0
theorem ACN{w:World}{I:Im}{xs:List DW}{v:Value}(h:VRel w I (.slice .str) xs v):
 (∃a cap,v=.slice a 0 cap/\xs=[])\/∃b o cap,v=.slice (some ⟨b,o,none⟩) xs.length cap/\b<w.heap.size/\xs.length<=cap/\
  ∀(j:Nat) x,xs[j]?=some x->w.cell? ⟨b,o+j,none⟩=some (.string ⟨x.toArray⟩)/\x.length<=281474976710656:=by
 obtain⟨c,h1,a,cap,h2,h3,h4,h5⟩:=h;have h1:c=[v]:=h1;rw[h1]at h2;have h2:v=.slice a xs.length cap:=A5.1 h2;by_cases he:xs=[]
 .subst he;exact .inl ⟨a,cap,h2,rfl⟩
 .right;cases a with
  |none=>exact absurd (h4 rfl).1 he
  |some ad=>
   obtain⟨hsp,h6⟩:=h5 ad rfl;obtain⟨b,o,sp⟩:=ad;have hsp:(⟨b,o,sp⟩:Addr).spot=none:=hsp λh0=>he (AJ (Nat.le_zero.1 (h0▸h3.1)));cases hsp
   have key:∀(j:Nat) x,xs[j]?=some x->w.cell? ⟨b,o+j,none⟩=some (.string ⟨x.toArray⟩)/\x.length<=281474976710656:=by
    intro j x hx;obtain⟨c',⟨k1,k2⟩,k3,k4⟩:=h6 j x hx;have:=(k2 0 Nat.one_pos).2;rw[k3]at this;exact⟨by rw[<-show o+j*Ty.str.sz+0=o+j by show o+j*1+0=o+j;omega];exact this,k4⟩
   have hpos:0<xs.length:=List.length_pos_iff.2 he;exact⟨b,o,cap,h2,V9 (key 0 xs[0] (A0 hpos)).1,h3.1,key⟩
def ACO:FSpec:=⟨[.val (.slice .str),.val .str],[.val .str],strings_Join,false⟩
theorem VC:F6 Go.Proofs.Tryz.prog 202/\FunOK Go.Proofs.Tryz.prog 202 ACO:=by
 refine⟨HV Tryz.func202 oa oa,FunOK.flat1 (t:=.str) rfl rfl (λargs=>by rcases args with _|⟨_,_|⟨_,_⟩⟩<;>rfl) λw I v args bs hm hsh r hr=>?_⟩;obtain⟨rfl,x,y,rfl,hx,hy⟩:=MZ hsh;obtain⟨rfl,h1⟩:=IN hy;obtain⟨⟨h2,h3⟩,hr⟩:=LM hr;cases hr;obtain⟨xs,sep⟩:List DW×DW:=v;have h3:(Lib.join xs sep).length<=140737488355328:=h3;have hout:(Lib.join xs sep).length<=281474976710656:=o5
 rcases ACN hx with⟨a,cap,rfl,hxs⟩|⟨b,o,cap,rfl,hb,hcap,hcell⟩
 .have hxs:xs=[]:=hxs;subst hxs;have e:Lib.join [] sep=[]:=by simp[Lib.join,List.intercalate]
  refine⟨rfl,.string ⟨(Lib.join [] sep).toArray⟩,λw' I'=>KG (LP hout),?_⟩;rw[e];exact(Tryz.strings_Join_none a cap ⟨sep.toArray⟩ w).mono λe w' ⟨he,hw⟩=>⟨he,P2 hw⟩
 .refine⟨rfl,.string ⟨(Lib.join xs sep).toArray⟩,λw' I'=>KG (LP hout),?_⟩
  have hm1:(xs.map λx=>(⟨x.toArray⟩:ByteArray)).map (λb=>b.data.toList)=xs:=by
   rw[List.map_map];exact List.map_id _
  have:=Tryz.strings_Join b o cap (xs.map λx=>⟨x.toArray⟩) ⟨sep.toArray⟩ w (λj x hx=>by
   rw[AV]at hx;cases hj:xs[j]? with
   |none=>rw[hj]at hx;cases hx
   |some z=>rw[hj]at hx;cases hx;exact(hcell j z hj).1) hb (by rw[B2];exact h2) (by rw[B2];exact hcap) (by rw[hm1];exact h3)
  rw[hm1,B2]at this;exact this.mono λe w' ⟨he,hw⟩=>⟨he,hw,λh=>oe⟩
theorem After.toBelow{gv:Nat->Prop}{w w':World}{I I':Im}(h:After gv w I w' I')(hg:∀b,¬gv b):Below w.heap.size w w':=
 ⟨h.os,h.tape,h.output,h.size,λb hb=>h.heap b hb (hg b)⟩
theorem ACP{w w':World}{I:Im}(hm:GM w I)(hb:Below w.heap.size w w'):Ext w I w' I/\GM w' I:=by
 have he:Ext w I w' I:=⟨λb o h=>⟨h,by simp only[World.cell?,hb.block b (hm.1 b o h)]⟩,λb h=>⟨h,hb.block b (hm.2.1 b h)⟩⟩;exact⟨he,λb o h=>B0 (hm.1 b o h) hb.size,λb h=>B0 (hm.2.1 b h) hb.size,hm.2.2.ext he⟩
theorem ACQ{P:Program}{g:Nat}(h:F6 P g):∀args w,(callFunc g args).run P w=.ok (.enter g args) w:=by
 obtain⟨fn,c,h1,h2,h3⟩:=h;intro args w;have h2':fn.name≠"runtime.NumGoroutine" :=oq
 simp[callFunc,h1,h2',h3]
theorem ACR(p:Nat->Bool)(s:ByteArray):∀x∈Lib.goFieldsP p s,x.size<=s.size:=by
 intro x hx;obtain⟨q,_,rfl⟩:=C2.1 hx;rw[C_];omega
noncomputable def ACS:FSpec:=⟨[.val .str,.hof false (.int .i32) .bool],[.val (.slice .str)],QZ,false⟩
theorem ACT:F6 Go.Proofs.Tryz.prog 269/\FunOK Go.Proofs.Tryz.prog 269 ACS:=by
 refine⟨HV Tryz.func269 oa oa,FunOK.given λw I v args bs hm hsh r hr=>?_⟩;obtain⟨a1,vs,b1,b2,rfl,rfl,⟨hx,rfl⟩,a2,rfl,rfl,g,lb,ha2,hent,hof⟩:=hsh;obtain⟨rfl,h0⟩:=IN hx;obtain rfl:=A5.1 ha2;obtain⟨s,F⟩:DW×(Int->Option Bool):=v;have hr:QZ (s,F)=some r:=hr;unfold QZ at hr;obtain⟨⟨h1,h2,h3⟩,hr⟩:=LM hr;cases hr
 have hp:PredGrows Tryz.prog g lb (λr=>(F (r:Int)).getD false) w:=by
  intro W x hx hb;obtain⟨he,hm'⟩:=ACP hm hb;obtain⟨b,hb'⟩:=h2 x hx;have hb':F (x:Int)=some b:=hb';have:=hof W I he hm' (x:Int) [.int .i32 x] ⟨_,rfl,dG ⟨by show(-2147483648:Int)<=_;omega,by show _<=(2147483647:Int);omega⟩⟩ b hb';refine this.mono λe w'' ⟨rv,I'',k1,k2,k3,_⟩=>?_;have hrv:=ABs k3;subst hrv;show e=.returned (.bool ((F (x:Int)).getD false))/\_;rw[hb'];exact⟨k1,After.toBelow k2 λ_ h=>h⟩
 have:=Any.strings_FieldsFunc_grows Tryz.lays229 g lb (ACQ hent) (λr=>(F (r:Int)).getD false) ⟨s.toArray⟩ w (by rw[K5];exact h1) hp oa oa;refine⟨rfl,this.mono λe w' ⟨A,he,hA,hown,hbl⟩=>?_⟩;obtain⟨_,hh|⟨g',cap,cur,k1,k2,k3,k4,k5,k6,k7⟩⟩:=hown
 .cases hh.1
 .obtain⟨rfl,rfl⟩:A=g'/\(Lib.goFieldsP (λr=>(F (r:Int)).getD false) ⟨s.toArray⟩).length=cap:=by injection k1 with e1 e2 e3;injection e1 with e1;injection e1 with e1;exact⟨e1,e3⟩
  refine⟨_,[_],λb o=>b=A,he,rfl,rfl,hbl,(λh=>oe),?_,KG ?_⟩
  .rintro b o rfl;exact⟨hA,pM k3⟩
  .have:=A13 (P:=Tryz.prog) (I:=I) (X:=λb o=>b=A) (xs:=(Lib.goFieldsP (λr=>(F (r:Int)).getD false) ⟨s.toArray⟩).map λb=>b.data.toList)
    (cap:=(Lib.goFieldsP (λr=>(F (r:Int)).getD false) ⟨s.toArray⟩).length) k3 (by rw[B2];exact AB _) (by rw[B2];exact h3) ?_ ?_ (λo _=>rfl)
   .rw[B2]at this;exact this
   .intro i x hx;rw[AV]at hx;cases hb:(Lib.goFieldsP (λr=>(F (r:Int)).getD false) ⟨s.toArray⟩)[i]? with
    |none=>rw[hb]at hx;cases hx
    |some b=>
     rw[hb]at hx;cases hx;have hi:=(A8.1 hb).1;have:=congrArg (λl=>l[i]?) k7;simp only[AK,AV,hb]at this;rw[if_pos o5]at this;simpa using this
   .intro x hx;obtain⟨b,hb,rfl⟩:=C2.1 hx;have:=ACR _ ⟨s.toArray⟩ b hb;rw[K5]at this;have e:b.data.toList.length=b.size:=rfl;rw[e];exact AU this h0
theorem A15{el:TypeId}(h:Lay Tryz.prog (.agg GG) el):el=300:=by
 have hall:((List.range Tryz.prog.types.size).all λi=>!(layB Tryz.prog (.agg GG)).1 i||Nat.beq i 300)=true:=oa
 have hlt:el<Tryz.prog.types.size:=A8A h.inf rfl;have h1:=BG.1 hall el (D5.2 hlt);have h2:(layB Tryz.prog (.agg GG)).1 el=true:=h;rw[h2]at h1;exact A2 h1
set_option maxHeartbeats 1000000 in
set_option maxRecDepth 100000 in
theorem ACU(b:Nat)(w:World)(h0:w.cell? ⟨b,0,none⟩=some (.pointer (some ⟨b,0,none⟩))):
 Calls Tryz.prog 239 #[.pointer (some ⟨b,0,none⟩)] w λe w'=>e=.returned (.tuple #[])/\w'=w:=by
 have mixed:Tryz.prog.follows .mixedOrders=true:=oa
 have t72:=Tryz.underlying300;have a72:=Tryz.isAgg300;have z72:=Tryz.sizeOf300;have v72:=Tryz.zeroValue300;have u72:=run_underlying Tryz.underlying300;have t70:=Tryz.underlying297;have a70:=Tryz.isAgg297;have z70:=Tryz.sizeOf297;have v70:=Tryz.zeroValue297;have u70:=run_underlying Tryz.underlying297;have t4:=Tryz.underlying4;have a4:=Tryz.isAgg4;have z4:=Tryz.sizeOf4;have v4:=Tryz.zeroValue4;have u4:=run_underlying Tryz.underlying4;obtain⟨j,hj,_⟩:=Option.map_eq_some_iff.1 (show(Tryz.prog.info? 300).map (·.size)=some 2 by kernel_rfl)
 go_enter Tryz.func239,Tryz.ntmps239
 go_wp2
 rw[Lib.run_neq_ptr_same w _ Tryz.underlying297 hj]
 go_wp2
 go_end0
 exact⟨rfl,rfl⟩
set_option maxHeartbeats 1000000 in
set_option maxRecDepth 100000 in
theorem ACV(b:Nat)(w:World)(h0:w.cell? ⟨b,0,none⟩=some (.pointer none))(hsh:w.shape? b=some (300,2))(hfz:w.frozen? ⟨b,0,none⟩=false):
 Calls Tryz.prog 239 #[.pointer (some ⟨b,0,none⟩)] w λe w'=>e=.returned (.tuple #[])/\w'=w.setCell ⟨b,0,none⟩ (.pointer (some ⟨b,0,none⟩)):=by
 obtain⟨j,hj,hjs⟩:=Option.map_eq_some_iff.1 (show(Tryz.prog.info? 300).map (·.size)=some 2 by kernel_rfl);have mixed:Tryz.prog.follows .mixedOrders=true:=oa
 have t72:=Tryz.underlying300;have a72:=Tryz.isAgg300;have z72:=Tryz.sizeOf300;have v72:=Tryz.zeroValue300;have u72:=run_underlying Tryz.underlying300;have t70:=Tryz.underlying297;have a70:=Tryz.isAgg297;have z70:=Tryz.sizeOf297;have v70:=Tryz.zeroValue297;have u70:=run_underlying Tryz.underlying297;have t4:=Tryz.underlying4;have a4:=Tryz.isAgg4;have z4:=Tryz.sizeOf4;have v4:=Tryz.zeroValue4;have u4:=run_underlying Tryz.underlying4;have t164:=Tryz.underlying380;have a164:=Tryz.isAgg380;have z164:=Tryz.sizeOf380;have v164:=Tryz.zeroValue380;have u164:=run_underlying Tryz.underlying380
 go_enter Tryz.func239,Tryz.ntmps239
 go_wp2
 rw[Lib.run_to_unsafe w ⟨b,0,none⟩ Tryz.underlying297 Tryz.underlying380 hj (by rw[hjs];decide) hsh (Nat.zero_lt_succ 1)];simp only[Result.andThen];rw[Oper.upon_value]
 go_wp2
 rw[run_callFunc_extern Tryz.func280 oa oa oa (e:=Extern.AbiNoEscape.same) oa];rw[Lib.run_noEscape];simp only[Result.andThen];rw[Oper.upon_value]
 go_wp2
 rw[Lib.run_from_unsafe w ⟨b,0,none⟩ Tryz.underlying380 Tryz.underlying297 hj hsh oa];simp only[Result.andThen];rw[Oper.upon_value]
 go_wp2
 go_end0
 exact⟨rfl,rfl⟩
theorem A16{w:World}{b:Nat}{cells:Array Value}{p q:Value}{el:TypeId}{fz:Nat×Nat}(hb:w.heap[b]?=some (.cells cells el fz))(hc:cells.toList=[p,q]):
 w.cell? ⟨b,0,none⟩=some p/\w.cell? ⟨b,1,none⟩=some q:=by
 have:cells= #[p,q]:=by apply C4;exact hc
 subst this;exact⟨by simp only[World.cell?,hb];rfl,by simp only[World.cell?,hb];rfl⟩
set_option maxHeartbeats 2000000 in
set_option maxRecDepth 100000 in
theorem ACW(b g cap:Nat)(l:List UInt8)(w:World)(cur:Array Value)(fz:Nat×Nat)(hb:w.cell? ⟨b,1,none⟩=some (.slice (some ⟨g,0,none⟩) l.length cap))(h0:l≠[])
 (hg:w.heap[g]?=some (.cells cur 5 fz))(hcap:l.length<=cap)(hcs:cur.size=cap)(hmax:l.length<=281474976710656)(hx:∀(j:Nat) x,l[j]?=some x->cur[j]?=some (.int .u8 x.toNat)):
 Calls Tryz.prog 190 #[.pointer (some ⟨b,0,none⟩)] w λe w'=>e=.returned (.string ⟨l.toArray⟩)/\w'=w.drew.freeze ⟨g,0,none⟩ l.length:=by
 have hl0:l.length≠0:=by simpa using h0
 have c1:w.drew.cell? ⟨b,1,none⟩=some (.slice (some ⟨g,0,none⟩) l.length cap):=hb
 have hSD:(Builtin.unsafeSliceData_ #[298] 347 #[.slice (some ⟨g,0,none⟩) l.length cap]).run Tryz.prog w.drew=.ok (.pointer (some ⟨g,0,none⟩)) w.drew:=
  Lib.run_unsafeSliceData_row _ _ _ _ _ _ o5
 have hUS:(Builtin.unsafeString_ #[347,3] 9 #[.pointer (some ⟨g,0,none⟩),.int .i64 l.length]).run Tryz.prog w.drew=.ok (.string ⟨l.toArray⟩) (w.drew.freeze ⟨g,0,none⟩ l.length):=by
  refine Lib.run_unsafeString_row w.drew 347 3 9 5 Tryz.underlying347 oa g cur.size (by have hg':w.drew.heap[g]?=some (.cells cur 5 fz):=hg;simp[World.shape?,hg']) l h0 o5 o5 ?_;intro j x hj;have hg':w.drew.heap[g]?=some (.cells cur 5 fz):=hg;have ha:(⟨g,0,none⟩:Addr).add j=⟨g,j,none⟩:=by simp[Addr.add];exact λh=>h.symm
  rw[ha];simp only[World.cell?,hg',hx j x hj];rfl
 clear hx hcs hg hcap hmax h0;have mixed:Tryz.prog.follows .mixedOrders=true:=oa
 have t72:=Tryz.underlying300;have a72:=Tryz.isAgg300;have z72:=Tryz.sizeOf300;have v72:=Tryz.zeroValue300;have u72:=run_underlying Tryz.underlying300;have t70:=Tryz.underlying297;have a70:=Tryz.isAgg297;have z70:=Tryz.sizeOf297;have v70:=Tryz.zeroValue297;have u70:=run_underlying Tryz.underlying297;have t37:=Tryz.underlying298;have a37:=Tryz.isAgg298;have z37:=Tryz.sizeOf298;have v37:=Tryz.zeroValue298;have u37:=run_underlying Tryz.underlying298;have t127:=Tryz.underlying347;have a127:=Tryz.isAgg347;have z127:=Tryz.sizeOf347;have v127:=Tryz.zeroValue347;have u127:=run_underlying Tryz.underlying347;have t3:=Tryz.underlying3;have a3:=Tryz.isAgg3;have z3:=Tryz.sizeOf3;have v3:=Tryz.zeroValue3;have u3:=run_underlying Tryz.underlying3;have t9:=Tryz.underlying9;have a9:=Tryz.isAgg9;have z9:=Tryz.sizeOf9;have v9:=Tryz.zeroValue9;have u9:=run_underlying Tryz.underlying9;have t5:=Tryz.underlying5;have a5:=Tryz.isAgg5;have z5:=Tryz.sizeOf5;have v5:=Tryz.zeroValue5;have u5:=run_underlying Tryz.underlying5
 go_enter Tryz.func190,Tryz.ntmps190
 go_wp2
 go_region_o
 all_goals (go_wp2;go_ret;exact⟨rfl,rfl⟩)
set_option maxHeartbeats 2000000 in
set_option maxRecDepth 100000 in
theorem ACX(b g:Nat)(w:World)(cur:Array Value)(fz:Nat×Nat)(hb:w.cell? ⟨b,1,none⟩=some (.slice (some ⟨g,0,none⟩) 0 0))(hg:w.heap[g]?=some (.cells cur 5 fz)):
 Calls Tryz.prog 190 #[.pointer (some ⟨b,0,none⟩)] w λe w'=>e=.returned (.string ⟨#[]⟩)/\Below w.heap.size w w':=by
 have hUS:∀(W:World) (q:Option Addr),(Builtin.unsafeString_ #[347,3] 9 #[.pointer q,.int .i64 0]).run Tryz.prog W=.ok (.string .empty) W:=λW q=>Lib.run_unsafeString_none W _ _ _ q;have hlt:=V9 hb;have c1:w.drew.cell? ⟨b,1,none⟩=some (.slice (some ⟨g,0,none⟩) 0 0):=hb
 have hSD:(Builtin.unsafeSliceData_ #[298] 347 #[.slice (some ⟨g,0,none⟩) 0 0]).run Tryz.prog w.drew=.ok (.pointer (some ⟨w.drew.heap.size,0,none⟩)) (w.drew.alloc (.view ⟨g,0,none⟩ 5)):=
  Lib.run_unsafeSliceData_zero w.drew _ _ 5 Tryz.underlying347 ⟨g,0,none⟩ 0 (5,cur.size) (by have hg':w.drew.heap[g]?=some (.cells cur 5 fz):=hg;simp[World.shape?,hg'])
 have hB:Below w.heap.size w (w.drew.alloc (.view ⟨g,0,none⟩ 5)):=(Below.drew (Below.refl _ w)).alloc (AB _) _;have c2:(w.drew.alloc (.view ⟨g,0,none⟩ 5)).cell? ⟨b,1,none⟩=some (.slice (some ⟨g,0,none⟩) 0 0):=(hB.cell hlt).trans hb;have c3:(w.alloc (.view ⟨g,0,none⟩ 5)).drew.cell? ⟨b,1,none⟩=some (.slice (some ⟨g,0,none⟩) 0 0):=c2;have mixed:Tryz.prog.follows .mixedOrders=true:=oa
 have t72:=Tryz.underlying300;have a72:=Tryz.isAgg300;have z72:=Tryz.sizeOf300;have v72:=Tryz.zeroValue300;have u72:=run_underlying Tryz.underlying300;have t70:=Tryz.underlying297;have a70:=Tryz.isAgg297;have z70:=Tryz.sizeOf297;have v70:=Tryz.zeroValue297;have u70:=run_underlying Tryz.underlying297;have t37:=Tryz.underlying298;have a37:=Tryz.isAgg298;have z37:=Tryz.sizeOf298;have v37:=Tryz.zeroValue298;have u37:=run_underlying Tryz.underlying298;have t127:=Tryz.underlying347;have a127:=Tryz.isAgg347;have z127:=Tryz.sizeOf347;have v127:=Tryz.zeroValue347;have u127:=run_underlying Tryz.underlying347;have t3:=Tryz.underlying3;have a3:=Tryz.isAgg3;have z3:=Tryz.sizeOf3;have v3:=Tryz.zeroValue3;have u3:=run_underlying Tryz.underlying3;have t9:=Tryz.underlying9;have a9:=Tryz.isAgg9;have z9:=Tryz.sizeOf9;have v9:=Tryz.zeroValue9;have u9:=run_underlying Tryz.underlying9;have t5:=Tryz.underlying5;have a5:=Tryz.isAgg5;have z5:=Tryz.sizeOf5;have v5:=Tryz.zeroValue5;have u5:=run_underlying Tryz.underlying5
 go_enter Tryz.func190,Tryz.ntmps190
 go_wp2
 go_region_o
 all_goals (go_wp2;go_ret;exact⟨rfl,hB⟩)
theorem After.only{w w':World}{I:Im}(hm:GM w I){b:Nat}{bs:List Nat}(hb:b∈bs)(hI:∀o,¬I.cell b o)(hO:¬I.obj b)(hh:∀k,k≠b->w'.heap[k]?=w.heap[k]?)(hs:w'.heap.size=w.heap.size)
 (hos:w'.os=w.os)(ht:w'.tape=w.tape)(ho:w'.output=w.output):After (·∈bs) w I w' I:=by
 have hx:Ext w I w' I:=⟨λk o h=>⟨h,by simp only[World.cell?,hh k (λe=>hI o (e▸h))]⟩,λk h=>⟨h,hh k (λe=>hO (e▸h))⟩⟩;exact⟨hx,λk _ hk=>hh k (λe=>hk (e▸hb)),Nat.le_of_eq hs.symm,λ_ _ h=>.inl h,λ_ h=>.inl h,λk o h=>hs▸hm.1 k o h,λk h=>hs▸hm.2.1 k h,hos,ht,ho,hm.2.2.ext hx⟩
theorem ACY{w:World}{b o:Nat}{v:Value}{k:Nat}(h:k≠b):(w.setCell ⟨b,o,none⟩ v).heap[k]?=w.heap[k]?:=Below.heap_setCell w ⟨b,o,none⟩ v k h
def ACZ:FSpec:=⟨[.bld 5 false],[],YU,false⟩
theorem A17:F6 Go.Proofs.Tryz.prog 239/\FunOK Go.Proofs.Tryz.prog 239 ACZ:=by
 refine⟨HV Tryz.func239 oa oa,λw I v args bs hm hsh hnd r hr=>?_⟩;cases hr;obtain⟨v1,rfl,b,cells,el,p,q,bs',e1,rfl,h1,hlay,h2,hp,h4,h5,h6⟩:=hsh;obtain rfl:=A5.1 e1;obtain rfl:=A15 hlay;obtain⟨c0,c1⟩:=A16 h1 h2;have hnd':=B7.1 hnd;rcases hp with rfl|rfl
 .have hsh:w.shape? b=some (300,2):=by
   have:cells.size=2:=by rw[<-BR,h2];rfl
   simp[World.shape?,h1,this]
  refine(ACV b w c0 hsh (by simp[World.frozen?,h1])).mono λe w' ⟨he,hw⟩=>?_;have hh:∀k,k≠b->w'.heap[k]?=w.heap[k]?:=λk hk=>by rw[hw];exact ACY hk
  have hs:w'.heap.size=w.heap.size:=by rw[hw];simp[World.setCell]
  have hbk:w'.heap[b]?=some (.cells #[.pointer (some ⟨b,0,none⟩),q] 300 (0,0)):=by
   have hc:cells= #[.pointer none,q]:=by apply C4;exact h2
   subst hc;rw[hw];simp only[World.setCell,Array.getElem?_modify,h1];simp
  refine⟨_,[],I,b::bs',he,rfl,rfl,After.only hm AI h4 h5 hh hs (by rw[hw];rfl) (by rw[hw];rfl) (by rw[hw];rfl),?_,hnd,λb hb=>.inl hb,λh=>oe⟩;refine⟨_,rfl,b,_,300,_,q,bs',rfl,rfl,hbk,hlay,rfl,.inr rfl,h4,h5,?_⟩;rcases h6 with h6|⟨g,cap,gc,k1,k2,k3,⟨fz,k4,k4'⟩,k5,k6,k7,k8⟩
  .exact .inl h6
  .have hgb:g≠b:=by rw[k2]at hnd';intro e;exact hnd'.1 (by rw[e];exact List.mem_singleton_self _)
   refine .inr ⟨g,cap,gc,k1,k2,k3,⟨fz,(hh g hgb).trans k4,k4'⟩,k5,?_,k7,k8⟩;have hx:Ext w I w' I:=(After.only hm (bs:=b::bs') AI h4 h5 hh hs (by rw[hw];rfl) (by rw[hw];rfl) (by rw[hw];rfl)).ext;exact λi x hx'=>(k6 i x hx').ext hx
 .refine(ACU b w c0).mono λe w' ⟨he,hw⟩=>?_;subst hw;refine⟨_,[],I,b::bs',he,rfl,rfl,After.refl hm,?_,hnd,λb hb=>.inl hb,λh=>oe⟩;exact⟨_,rfl,b,cells,300,_,q,bs',rfl,rfl,h1,hlay,h2,.inr rfl,h4,h5,h6⟩
theorem AC_{w:World}{b n:Nat}{k:Nat}(h:k≠b):(w.freeze ⟨b,0,none⟩ n).heap[k]?=w.heap[k]?:=by
 unfold World.freeze;split
 .rfl
 .simp only[Array.getElem?_modify];rw[if_neg (λe=>h e.symm)]
theorem ACa{w:World}{a:Addr}{n:Nat}:(w.freeze a n).heap.size=w.heap.size:=by
 unfold World.freeze;split
 .rfl
 .simp
theorem ACb{w:World}{a:Addr}{n:Nat}:(w.freeze a n).os=w.os/\(w.freeze a n).tape=w.tape/\(w.freeze a n).output=w.output:=by
 unfold World.freeze;split<;>exact⟨rfl,rfl,rfl⟩
theorem ACc{xs:List Int}(h:∀x∈xs,G6 .u8 x):xs=FV (HH xs):=by
 unfold FV HH;rw[List.map_map];conv=>lhs;rw[<-List.map_id xs]
 refine List.map_congr_left λx hx=>?_;have h1:0<=x/\x<=255:=h x hx;show x=((UInt8.ofNat x.toNat).toNat:Int);rw[UInt8.toNat_ofNat'];omega
def ACd:FSpec:=⟨[.bld 5 true],[.val .str],MO,false⟩
theorem P3:F6 Go.Proofs.Tryz.prog 190/\FunOK Go.Proofs.Tryz.prog 190 ACd:=by
 refine⟨HV Tryz.func190 oa oa,λw I v args bs hm hsh hnd r hr=>?_⟩;cases hr;obtain⟨v1,rfl,b,cells,el,p,q,bs',e1,rfl,h1,hlay,h2,hp,h4,h5,h6⟩:=hsh;obtain rfl:=A5.1 e1;obtain rfl:=A15 hlay;obtain⟨c0,c1⟩:=A16 h1 h2;have hnd':=B7.1 hnd;have hcells:cells= #[p,q]:=by apply C4;exact h2
 subst hcells
 have empty:∀(w':World) (e:Ending),(show List Int from v)=[]->e=.returned (.string ⟨#[]⟩)->Below w.heap.size w w'->∃rv vs I' bs'',e=.returned rv/\vs.length=1/\IV vs rv/\After (·∈b::bs') w I w' I'/\
  ShL Tryz.prog w' I' [.val .str] (HH v) (vs++[]) bs''/\bs''.Nodup/\(∀k∈bs'',k∈b::bs'\/w.heap.size<=k)/\(false=true->w.drawn<=w'.drawn):=by
  intro w' e hv he hb;refine⟨_,[_],RV I NV,[],he,rfl,rfl,(After.below hm hb P1).mono (λk hk=>by cases hk),?_,.nil,(λk hk=>by cases hk),λh=>oe⟩;have:HH v=[]:=by have hv:v=([]:List Int):=hv;rw[hv];rfl
  rw[this];exact KG (LP (x:=[]) od)
 rcases h6 with⟨rfl,k1,k2⟩|⟨g,cap,gc,rfl,k2,k3,⟨fz,k4,k4'⟩,k5,k6,k7,k8⟩
 .exact(Any.Builder_String_nil Tryz.lays169 Tryz.Builder_Extra_169 w.heap.size b p w h1).mono λe w' ⟨he,hb⟩=>empty w' e k1 he hb
 .obtain⟨xs,hxs⟩:∃xs:List Int,xs=v:=⟨v,rfl⟩;subst hxs;have k3:GL xs.length cap:=k3;have k5:gc.size=cap:=by rw[k5];exact CV _
  by_cases h0:xs=[]
  .subst h0;by_cases hc:cap=0
   .subst hc;exact(ACX b g w gc fz c1 k4).mono λe w' ⟨he,hb⟩=>empty w' e rfl he hb
   .exact(Any.Builder_String_room Tryz.lays169 Tryz.Builder_Extra_169 w.heap.size b g cap p w hc h1).mono λe w' ⟨he,hb⟩=>empty w' e rfl he hb
  .have hrow:∀(j:Nat) x,xs[j]?=some x->gc[j]?=some (.int .u8 x)/\G6 .u8 x:=by
    intro j x hx;obtain⟨e1,e2⟩:=k6 j x hx;refine⟨?_,e2⟩;have e1:((gc.toList.drop (j*1)).take 1)=[.int .u8 x]:=e1;have:=congrArg (λl=>l[0]?) e1;simpa using this
   have hk:∀x∈xs,G6 .u8 x:=λx hx=>let ⟨j,hj⟩:=C9 hx;(hrow j x hj).2
   have hb:xs=FV (HH xs):=ACc hk;have hl:(HH xs).length=xs.length:=by simp[HH]
   refine(ACW b g cap (HH xs) w gc fz (by rw[hl];exact c1) (λe=>h0 (by rw[hb,e];rfl)) k4 (by rw[hl];exact k3.1) k5 (by rw[hl];exact k3.2) (λj x hj=>?_)).mono λe w' ⟨he,hw⟩=>?_
   .have:xs[j]?=some (x.toNat:Int):=by rw[hb];simp[FV,hj]
    exact(hrow j _ this).1
   .obtain⟨o1,o2,o3⟩:=ACb (w:=w.drew) (a:=⟨g,0,none⟩) (n:=(HH xs).length);refine⟨_,[_],I,[],he,rfl,rfl,After.only hm (b:=g) (by rw[k2];simp) k7 k8 (λk hk=>by rw[hw];exact AC_ hk) (by rw[hw];exact ACa) (by rw[hw];exact o1) (by rw[hw];exact o2) (by rw[hw];exact o3),?_,.nil,(λk hk=>by cases hk),λh=>oe⟩;exact KG (LP (by rw[hl];exact k3.2))
end Go.Ev.Pv
namespace Go.Ev.Pv
variable [Pins]
open Go.Proofs Go.RowKit Go.Sort Go.Shelf
theorem A18{P:Program}{g:Nat}(h:F6 P g):∀args w,(callFunc g args).run P w=.ok (.enter g args) w:=by
 obtain⟨fn,c,h1,h2,h3⟩:=h;intro args w;have h2':fn.name≠"runtime.NumGoroutine" :=oq
 simp[callFunc,h1,h2',h3]
theorem A19{α:Type} [Inhabited α](enc:α->Value)(w:World)(blk off:Nat)(d:Array α)(k:Nat)(h:k≠blk):(putRow enc w blk off d).heap[k]?=w.heap[k]?:=by
 simp only[putRow,mapBlock,Array.getElem?_modify];rw[if_neg (λe=>h e.symm)]
theorem A1A{α:Type} [Inhabited α](enc:α->Value)(w:World)(blk off:Nat)(d:Array α){cs:Array Value}{el:TypeId}{fz:Nat×Nat}(h:w.heap[blk]?=some (.cells cs el fz)):
 (putRow enc w blk off d).heap[blk]?=some (.cells (putCells enc off d cs) el fz):=by
 simp only[putRow,mapBlock,Array.getElem?_modify,h];simp[onCells]
theorem dH(w:World)(os:Array Go.Obj)(k:Nat)(h:k<w.heap.size):(grow w os).heap[k]?=w.heap[k]?:=by
 simp only[grow];rw[Array.getElem?_append_left h]
section
variable{P:Program}{w:World}{I:Im}
theorem pO{α:Type} [Inhabited α]{enc:α->List Value}{k b:Nat}{n:Nat}{D:Array α}{os:Array Go.Obj}{cs:Array Value}{el:TypeId}{fz:Nat×Nat}(hb:w.heap[b]?=some (.cells cs el fz)):
 (sortWorldK enc k w b 0 n D os).heap[b]?=some (.cells (putCells id 0 (flatK enc k D) cs) el fz)/\(∀j,j≠b->j<w.heap.size->(sortWorldK enc k w b 0 n D os).heap[j]?=w.heap[j]?)/\
 w.heap.size<=(sortWorldK enc k w b 0 n D os).heap.size/\(sortWorldK enc k w b 0 n D os).drawn=w.drawn+n:=by
 have hlt:b<w.heap.size:=(BC.1 hb).1;unfold sortWorldK putRowK;refine⟨?_,λj hj hjl=>?_,?_,rfl⟩
 .rw[dH _ _ _ (by simpa using hlt)];exact A1A id _ b 0 _ hb
 .rw[dH _ _ _ (by simpa using hjl)];exact A19 id _ b 0 _ j hj
 .simp
theorem dI{α:Type} [Inhabited α]{enc:α->List Value}{k b:Nat}{n:Nat}{D:Array α}{os:Array Go.Obj}{cs:Array Value}{el:TypeId}{fz:Nat×Nat}(hb:w.heap[b]?=some (.cells cs el fz))
 (hm:GM w I)(hI:∀o,¬I.cell b o)(hO:¬I.obj b):Ext w I (sortWorldK enc k w b 0 n D os) I/\GM (sortWorldK enc k w b 0 n D os) I:=by
 obtain⟨h1,h2,h3,h4⟩:=pO (enc:=enc) (k:=k) (n:=n) (D:=D) (os:=os) hb;have hx:Ext w I (sortWorldK enc k w b 0 n D os) I:=⟨λj o h=>⟨h,by simp only[World.cell?,h2 j (λe=>hI o (e▸h)) (hm.1 j o h)]⟩,λj h=>⟨h,h2 j (λe=>hO (e▸h)) (hm.2.1 j h)⟩⟩;exact⟨hx,λj o h=>B0 (hm.1 j o h) h3,λj h=>B0 (hm.2.1 j h) h3,hm.2.2.ext hx⟩
theorem ACe{ρ:Ren}{f el:Nat}{p:Ty}(L:SlLaysF0.n6 P ρ)(hf:ρ.f 6=f)(aE:∀w,(isAgg (ρ.t 24)).run P w=.ok true w)(zE:∀w,(Go.sizeOf (ρ.t 24)).run P w=.ok p.sz w)(hp:0<p.sz):
 FunOK P f ⟨[.io el (.agg p),.hof true (.prod (.agg p) (.agg p)) (.int .i64)],[],λv=>KA v.1 v.2,true⟩:=by
 subst hf;intro w I v args bs hm hsh hnd r hr;obtain⟨v1,vs,b1,b2,rfl,rfl,h1,v2,rfl,rfl,g,lb,hv2,hent,hof⟩:=hsh;obtain rfl:=A5.1 hv2;obtain⟨xs,F⟩:List p.T×(p.T×p.T->Option Int):=v;have hr:KA xs F=some r:=hr
 have none_:∀(a:Option Addr) (cap:Nat),v1=.slice a 0 cap->xs=[]->
  Calls P (ρ.f 6) #[v1,.func (.func g) #[] lb] w λe w'=>∃rv vs I' bs',e=.returned rv/\vs.length=0/\IV vs rv/\After (·∈b1++[]) w I w' I'/\
   ShL P w' I' [.io el (.agg p)] r (vs++[v1]) bs'/\bs'.Nodup/\(∀b∈bs',b∈b1++[]\/w.heap.size<=b)/\(true=true->w.drawn<=w'.drawn):=by
  intro a cap hv hxs;subst hxs
  have hr:r=([]:List p.T):=by
   have:KA ([]:List p.T) F=some []:=rfl;rw[this]at hr;cases hr;rfl
  subst hv;refine(AnyF.slices_SortFunc_none L a cap _ w).mono λe w' ⟨he,hw⟩=>?_;subst hw;rw[C3]at hnd ⊢;refine⟨_,[],I,b1,he,rfl,rfl,After.refl hm,⟨_,rfl,?_⟩,hnd,λb hb=>.inl hb,λ_=>AB _⟩;rw[hr];exact h1
 rcases h1 with⟨e1,e2,rfl⟩|⟨b,cap,cells,e1,rfl,hl,⟨fz,hb,hfz⟩,hcs,hrow,hI,_,hO⟩
 .exact none_ none 0 (A5.1 e1) e2
 .have e1:v1=.slice (some ⟨b,0,none⟩) xs.length cap:=A5.1 e1;by_cases h0:0<xs.length
  .subst e1;unfold KA at hr;rw[dif_pos h0]at hr;obtain⟨⟨hs1,hs2,hs3,hs4⟩,hr⟩:=LM hr;have hr:(H6 xs F h0).toList.map xs.get=r:=A3 hr
   letI:Inhabited (Fin xs.length):=⟨⟨0,h0⟩⟩
   let k:=p.sz
   have hcs:cells.size=cap*k:=hcs;have hcap:xs.length<=cap:=hl.1
   have hmul:∀i,i<xs.length->i*k+k<=cells.size:=by
    intro i hi;have:(i+1)*k<=cap*k:=B1 k o5;rw[hcs];rw[CF]at this;omega
   let enc:Fin xs.length->List Value:=λi=>(cells.toList.drop (i.val*k)).take k
   have hrel:∀i:Fin xs.length,Rel w I (.agg p) (xs.get i) (enc i):=λi=>hrow i.val (xs.get i) (A0 i.isLt)
   have hk:∀x,(enc x).length=k:=by
    intro x;have:=hmul x.val x.isLt;simp only[enc,B4,BP,BR];omega
   have hone:∀x,∀v∈enc x,v.oneCell'=true:=λx=>(hrel x).oneCell
   have hget:∀(i:Fin xs.length) (c:Nat),c<k->(enc i)[c]! =cells[i.val*k+c]!:=by
    intro i c hc;have h2:=hmul i.val i.isLt;have hlt:i.val*k+c<cells.size:=o5
    rw[getElem!_pos (enc i) c (by rw[hk];exact hc),getElem!_pos cells _ hlt];simp[enc]
   have hO':SWO (ltOf (IY xs F)):=⟨λx=>hs2 x,λx y z=>hs3 x y z,λx y z=>hs4 x y z⟩
   have hcmp:CmpLays P g lb enc k (IY xs F) b 0 xs.length w:=by
    intro m os dk _ x y;obtain⟨hx,hm'⟩:=dI (enc:=enc) (k:=k) (n:=m) (D:=dk) (os:=os) hb hm (hI rfl) hO;obtain⟨c,hc⟩:=Option.isSome_iff_exists.1 (hs1 x y)
    have:=hof _ I hx hm' (xs.get x,xs.get y) [.agg (enc x).toArray,.agg (enc y).toArray]
     ⟨_,_,rfl,⟨enc x,rfl,(hrel x).ext hx⟩,_,rfl,enc y,rfl,(hrel y).ext hx⟩ c hc
    refine this.mono λe w'' ⟨rv,I'',q1,q2,⟨c',q3,q4,_⟩,q5⟩=>?_;have q3:c'=[rv]:=q3;rw[q3]at q4;have q4:rv=.int .i64 c:=A5.1 q4;refine⟨?_,?_⟩
    .rw[q1,q4];unfold IY;rw[hc];rfl
    .obtain⟨⟨d,os'⟩,hw⟩:=regrown_of_below (w:=sortWorldK enc k w b 0 m dk os) (w':=w'') ⟨q2.os,q2.tape,q2.output,q2.size,λj hj=>q2.heap j hj λh=>h⟩;have hd:=q5 rfl;refine⟨d-(sortWorldK enc k w b 0 m dk os).drawn,os',?_⟩;have hdd:w''.drawn=d:=by rw[hw];rfl
     rw[hw];simp only[grow,redrawn,World.drewN]
     congr 1
     omega
   have hds:(Array.ofFn (id:Fin xs.length->Fin xs.length)).size=xs.length:=oc
   have hdi:∀(j:Nat) (hj:j<xs.length),(Array.ofFn (id:Fin xs.length->Fin xs.length))[j]! =⟨j,hj⟩:=by
    intro j hj;rw[getElem!_pos _ j om];simp
   have hdm:∀j,j<xs.length*k->j / k<xs.length/\j % k<k/\j / k*k+j % k=j:=λj hj=>
    ⟨(Nat.div_lt_iff_lt_mul hp).2 hj,Nat.mod_lt _ hp,Nat.div_add_mod' j k⟩
   have hH:HoldsK enc k w b 0 (Array.ofFn (id:Fin xs.length->Fin xs.length)):=by
    intro j hj;rw[size_flatK,hds]at hj;obtain⟨d1,d2,d3⟩:=hdm j hj;rw[get_flatK _ _ _ _ (by rw[hds];exact hj),hdi _ d1,hget _ _ d2,d3]
    have hjc:j<cells.size:=by
     have:=hmul _ d1;have:j<j / k*k+k:=o5
     omega
    refine⟨?_,?_⟩
    .simp only[World.cell?,hb,B8,id];rw[getElem!_pos cells j hjc];simp[hjc]
    .simp only[World.frozen?,hb,B8];rcases hfz with h|h
     .simp;omega
     .simp;omega
   have hblk:b<w.heap.size:=(BC.1 hb).1;have hsz:(Array.ofFn (id:Fin xs.length->Fin xs.length)).size<4611686018427387904:=by rw[hds];have:xs.length<=281474976710656:=hl.2;omega
   have hcon:=AnyQ.slices_SortFunc_eq L k aE zE enc hk hone (IY xs F) hO' g lb b 0 cap (Array.ofFn id) w (A18 hent) (by rw[hds];exact hcmp) hH hblk hsz;have hsorts:=pdq_sorts (ltOf (IY xs F)) hO' (Array.ofFn (id:Fin xs.length->Fin xs.length)) 0 xs.length (Lib.bitLen xs.length) true true (BQ _) (by rw[hds];exact AB _) (.inl rfl);rw[hds]at hcon;have hD:pdq (ltOf (IY xs F)) (Array.ofFn (id:Fin xs.length->Fin xs.length)) 0 xs.length (Lib.bitLen xs.length) true true=H6 xs F h0:=(jP xs F h0).symm;rw[hD]at hcon hsorts;have hDs:(H6 xs F h0).size=xs.length:=by have:=hsorts.1.1;rw[hds]at this;exact this
   refine hcon.mono λe w' ⟨he,n,os,hw⟩=>?_;obtain⟨a1,a2,a3,a4⟩:=pO (enc:=enc) (k:=k) (n:=n) (D:=H6 xs F h0) (os:=os) hb;obtain⟨x1,x2⟩:=dI (enc:=enc) (k:=k) (n:=n) (D:=H6 xs F h0) (os:=os) hb hm (hI rfl) hO;rw[<-hw]at a1 a2 a3 a4 x1 x2
   have hlen:(show List p.T from r).length=xs.length:=by
    have:((H6 xs F h0).toList.map xs.get).length=xs.length:=by rw[B2,BR,hDs]
    rw[hr]at this;exact this
   have hpc:(putCells id 0 (flatK enc k (H6 xs F h0)) cells).size=cells.size:=by simp[putCells]
   refine⟨_,[],I,[b],he,rfl,rfl,⟨x1,λj hj hn=>a2 j (λe=>hn (by rw[e];simp)) hj,a3,λ_ _ h=>.inl h,λ_ h=>.inl h,x2.1,x2.2.1,by rw[hw];rfl,by rw[hw];rfl,by rw[hw];rfl,x2.2.2⟩,?_,oc,λj hj=>.inl om,λ_=>by rw[a4];omega⟩;refine⟨_,rfl,.inr ⟨b,cap,_,?_,rfl,?_,⟨fz,a1,by rw[hpc];exact hfz⟩,by rw[hpc];exact hcs,?_,hI,(λh=>oe),hO⟩⟩
   .exact congrArg (λn=>[Value.slice (some ⟨b,0,none⟩) n cap]) hlen.symm
   .have:GL xs.length cap:=hl;rw[<-hlen]at this;exact this
   .intro i y hy;have hy:((H6 xs F h0).toList.map xs.get)[i]?=some y:=by rw[hr];exact hy
    rw[AV]at hy;cases hi:(H6 xs F h0).toList[i]? with
    |none=>rw[hi]at hy;cases hy
    |some q=>
     rw[hi]at hy;cases hy;have hil:i<xs.length:=by have:=(A8.1 hi).1;rw[BR,hDs]at this;exact this
     have hDi:(H6 xs F h0)[i]! =q:=by
      have:=(A8.1 hi).2;rw[getElem!_pos _ i (by rw[hDs];exact hil)];simpa using this
     have heq:((putCells id 0 (flatK enc k (H6 xs F h0)) cells).toList.drop (i*k)).take k=enc q:=by
      apply BV;intro c;by_cases hc:c<k
      .have hlt:i*k+c<cells.size:=by have:=hmul i hil;omega
       have hlt2:i*k+c<xs.length*k:=by
        have:(i+1)*k<=xs.length*k:=B1 k o5;rw[CF]at this;omega
       have hdiv:(i*k+c) / k=i:=by rw[CU,Nat.mul_add_div hp,Nat.div_eq_of_lt hc];omega
       have hmod:(i*k+c) % k=c:=by rw[CU,Nat.mul_add_mod,Nat.mod_eq_of_lt hc]
       rw[AK,if_pos hc,AR,BE];simp only[putCells,Array.getElem?_mapIdx];rw[AY hlt];simp only[BD];rw[if_pos ⟨BQ _,by rw[size_flatK,hDs];omega⟩,Nat.sub_zero,get_flatK _ _ _ _ (by rw[hDs];exact hlt2),hdiv,hmod,hDi];rw[getElem!_pos (enc q) c (by rw[hk];exact hc)];simp[hk,hc]
      .rw[B9 og,B9 (by rw[hk];omega)]
     rw[show(Ty.agg p).sz=k from rfl,heq];exact(hrel q).ext x1
  .have hx:xs=[]:=AJ o5;exact none_ (some ⟨b,0,none⟩) cap (by rw[e1,hx];rfl) hx
end
end Go.Ev.Pv
namespace Go.Ev.Pv
variable [Pins]
open Go.Proofs Go.RowKit Go.Sort Go.Shelf Go.Lib
theorem RX(b:Nat):∀(vs:List Value) (o:Nat) (w:World) (cs:Array Value) (el:TypeId) (fz:Nat×Nat),w.heap[b]?=some (.cells cs el fz)->o+vs.length<=cs.size->
 ∃cs',(w.setCells b o vs).heap[b]?=some (.cells cs' el fz)/\cs'.size=cs.size/\(∀j,j<vs.length->cs'[o+j]?=vs[j]?)/\(∀j,j<o\/o+vs.length<=j->cs'[j]?=cs[j]?)
 |[],_,_,cs,_,_,h,_=>⟨cs,h,rfl,λj hj=>by simp at hj,λ_ _=>rfl⟩
 |v::r,o,w,cs,el,fz,h,hl=>by
  have hl:o+(r.length+1)<=cs.size:=hl;have ho:o<cs.size:=o5
  have h1:(w.setCell ⟨b,o,none⟩ v).heap[b]?=some (.cells (cs.setIfInBounds o v) el fz):=by
   simp only[World.setCell,Array.getElem?_modify,h];simp
  obtain⟨cs',a1,a2,a3,a4⟩:=RX b r (o+1) _ _ el fz h1 (by rw[Array.size_setIfInBounds];omega);refine⟨cs',a1,by rw[a2];simp,λj hj=>?_,λj hj=>?_⟩
  .have hj:j<r.length+1:=hj;cases j with
   |zero=>rw[a4 _ o5];simp[ho]
   |succ j=>rw[show o+(j+1)=o+1+j by omega,a3 j o5];simp
  .have hj:j<o\/o+(r.length+1)<=j:=hj;rw[a4 j o5,Array.getElem?_setIfInBounds_ne o5]
theorem RY(b:Nat):∀(vs:List Value) (o:Nat) (w:World),(w.setCells b o vs).heap.size=w.heap.size/\(∀k,k≠b->(w.setCells b o vs).heap[k]?=w.heap[k]?)/\
 (w.setCells b o vs).drawn=w.drawn/\(w.setCells b o vs).tape=w.tape/\(w.setCells b o vs).os=w.os/\(w.setCells b o vs).output=w.output
 |[],_,_=>⟨rfl,λ_ _=>rfl,rfl,rfl,rfl,rfl⟩
 |v::r,o,w=>by
  obtain⟨a1,a2,a3,a4,a5,a6⟩:=RY b r (o+1) (w.setCell ⟨b,o,none⟩ v);refine⟨a1.trans (by simp[World.setCell]),λk hk=>(a2 k hk).trans ?_,a3,a4,a5,a6⟩;simp only[World.setCell,Array.getElem?_modify];rw[if_neg (λe=>hk e.symm)]
end Go.Ev.Pv
namespace Go.Ev.Pv
variable [Pins]
open Go.Proofs Go.RowKit Go.Sort Go.Shelf Go.Lib
noncomputable def zPin:Value:=(Tryz.t58.zero).getD default
theorem M_:Tryz.prog.info? 58=some Tryz.t58/\Tryz.t58.zero=some zPin/\Tryz.t58.size=2/\Tryz.t58.bytes=32/\zPin.cells.size=2:=⟨oa,oa,oa,oa,oa⟩
set_option maxHeartbeats 4000000 in
set_option maxRecDepth 1000000 in
theorem ACf(w:World):Calls Tryz.prog 109 #[.slice none 0 0,.int .i64 0] w λe w'=>e=.returned (.slice none 0 0)/\w'=w:=by
 have mixed:Tryz.prog.follows Departure.mixedOrders=true:=oa
 go_enter Tryz.func109,Tryz.ntmps109
 go_wp2
 go_ret
 exact⟨rfl,rfl⟩
set_option maxHeartbeats 4000000 in
set_option maxRecDepth 1000000 in
theorem ACg(n:Nat)(w:World)(h0:0<n)(hn:n<=4194304):
 Calls Tryz.prog 109 #[.slice none 0 0,.int .i64 n] w λe w'=>e=.returned (.slice (some ⟨w.heap.size,0,none⟩) 0 (grownCap w (0+n) 0 58))/\
  w'=w.drew.alloc (.cells (#[]++Builtin.zeroCells zPin.cells n++Builtin.zeroCells zPin.cells (grownCap w (0+n) 0 58-(0+n))) 58):=by
 have mixed:Tryz.prog.follows Departure.mixedOrders=true:=oa
 obtain⟨hi,hz,hs,hb,hc⟩:=M_
 have hrun:∀ty,(Builtin.append_ #[27,3] ty #[.slice none 0 0,.int .i64 n]).run Tryz.prog w=_:=λty=>
  run_append_grow_zeros w 27 3 ty 58 _ zPin .i64 .i64 Tryz.underlying27 Tryz.underlying3 hi hz none 0 0 [] (run_firstCells_none w.drew _ 0 0 0) n h0 o5 o5 o5 (by rw[hb];omega)
   (by rw[hb];exact growslice_fits o5 o5)
 have hz1:¬((n:Int)<0):=o5
 have hz2:(0:Int)<(n:Int):=o5
 go_enter Tryz.func109,Tryz.ntmps109
 go_wp2_with (at_builtin;refine Lib.wpList_append_run _ rfl _ _ _ _ rfl _ _ rfl rfl _ _ (hrun _) ?_)
 go_ret
 exact⟨rfl,rfl⟩
theorem dJ{P:Program}(w:World)(dT sT ty elem:TypeId)(i:TypeInfo)(b o dLen dCap:Nat)(a:Addr)(sLen sCap:Nat)(cs:List Value)
 (hu:P.underlying dT=some (.slice elem))(hq:P.info? elem=some i)(hn:cs.length=Nat.min sLen dLen*i.size)
 (hsrc:∀j v,cs[j]?=some v->w.cell? (a.add j)=some v)(hc:∀j,j<cs.length->(w.cell? ⟨b,o+j,none⟩).isSome=true)(hf:∀j,j<cs.length->w.frozen? ⟨b,o+j,none⟩=false)(h1:∀v∈cs,v.oneCell'=true):
 (Builtin.copy_ #[dT,sT] ty #[.slice (some ⟨b,o,none⟩) dLen dCap,.slice (some a) sLen sCap]).run P w=.ok (goInt (Nat.min sLen dLen)) (w.setCells b o cs):=by
 have hl:=run_firstCells_some (P:=P) w i.size (Nat.min sLen dLen) a sLen sCap cs hn hsrc;have hst:=run_storeCells_cells (P:=P) b o cs 0 w (by simpa using hc) (by simpa using hf) h1;simp only[CI]at hst;simp[Builtin.copy_,run_underlying hu,Builtin.lenOf,sizeOf,typeInfo,hq,hl,hst]
set_option maxHeartbeats 4000000 in
set_option maxRecDepth 1000000 in
theorem ACh(b n c vb vc:Nat)(vs:List Value)(w:World)(hroom:n+1<=c)(hvl:vs.length=2)
 (hsp:∀j,j<2->(w.cell? ⟨b,n*2+j,none⟩).isSome=true)(hfz:∀j,j<2->w.frozen? ⟨b,n*2+j,none⟩=false)
 (hvs:∀j v,vs[j]?=some v->w.cell? ⟨vb,0+j,none⟩=some v)(h1v:∀v∈vs,v.oneCell'=true):
 Calls Tryz.prog 55 #[.slice (some ⟨b,0,none⟩) n c,.int .i64 n,.slice (some ⟨vb,0,none⟩) 1 vc] w λe w'=>
  e=.returned (.slice (some ⟨b,0,none⟩) (n+1) c)/\w'=w.setCells b (n*2) vs:=by
 have mixed:Tryz.prog.follows Departure.mixedOrders=true:=oa
 obtain⟨hi,hz,hs,hb,hzc⟩:=M_;have hsrc:Src Tryz.prog Tryz.t58.size 26 (.slice (some ⟨vb,0,none⟩) 1 vc) 1 vs w:=Src.ofSlice w Tryz.underlying26 ⟨vb,0,none⟩ 1 vc vs (by rw[hs];omega) (λj u hj=>by rw[Addr.add_lit];exact hvs j u hj) h1v
 have hrun:∀ty,(Builtin.append_ #[27,26] ty #[.slice (some ⟨b,0,none⟩) n c,.slice (some ⟨vb,0,none⟩) 1 vc]).run Tryz.prog w=.ok (.slice (some ⟨b,0,none⟩) (n+1) c) (w.setCells b (n*2) vs):=λty=>by
  have h:=run_append_room_src w 27 26 ty 58 _ Tryz.underlying27 hi b 0 n c _ 1 vs hsrc hroom (by rw[hs,hvl];intro j hj;rw[B8];exact hsp j hj) (by rw[hs,hvl];intro j hj;rw[B8];exact hfz j hj);rw[hs,B8]at h;exact h
 have hnc:n<=c:=o5
 go_enter Tryz.func55,Tryz.ntmps55
 go_wp2_with (at_builtin;refine Lib.wpList_append_run _ rfl _ _ _ _ rfl _ _ rfl rfl _ _ (hrun _) ?_)
 go_ret
 exact⟨rfl,rfl⟩
set_option maxHeartbeats 4000000 in
set_option maxRecDepth 1000000 in
theorem A1B(base:Option Addr)(n c vb vc:Nat)(cs vs:List Value)(w:World)(hnc:n<=c)(hroom:c<n+1)(hbig:n<=1048576)(hbase:∀a,base=some a->a.off=0/\a.spot=none)
 (hcl:cs.length=n*2)(hvl:vs.length=2)(hnil:base=none->n=0)
 (hcs:∀a,base=some a->∀j v,cs[j]?=some v->w.cell? (a.add j)=some v)
 (hvs:∀j v,vs[j]?=some v->w.cell? ⟨vb,0+j,none⟩=some v)(h1v:∀v∈vs,v.oneCell'=true):
 Calls Tryz.prog 55 #[.slice base n c,.int .i64 n,.slice (some ⟨vb,0,none⟩) 1 vc] w λe w'=>
  e=.returned (.slice (some ⟨w.heap.size,0,none⟩) (n+1) (grownCap w (n+1) c 58))/\
  w'=w.drew.alloc (.cells ((cs++vs).toArray++Builtin.zeroCells zPin.cells (grownCap w (n+1) c 58-(n+1))) 58):=by
 have mixed:Tryz.prog.follows Departure.mixedOrders=true:=oa
 obtain⟨hi,hz,hs,hb,hzc⟩:=M_;have hsrc:Src Tryz.prog Tryz.t58.size 26 (.slice (some ⟨vb,0,none⟩) 1 vc) 1 vs w:=Src.ofSlice w Tryz.underlying26 ⟨vb,0,none⟩ 1 vc vs (by rw[hs];omega) (λj u hj=>by rw[Addr.add_lit];exact hvs j u hj) h1v
 have hold:(Builtin.firstCells Tryz.t58.size n (.slice base n c)).run Tryz.prog w.drew=.ok cs.toArray w.drew:=by
  rw[hs];cases base with
  |none=>
   have h0:=hnil rfl;subst h0;rw[CD.1 hcl];exact run_firstCells_none w.drew 2 0 0 c
  |some a=>exact run_firstCells_some w.drew 2 n a n c cs o5 (λj v hj=>hcs a rfl j v hj)
 have hrun:∀ty,(Builtin.append_ #[27,26] ty #[.slice base n c,.slice (some ⟨vb,0,none⟩) 1 vc]).run Tryz.prog w=
  .ok (.slice (some ⟨w.heap.size,0,none⟩) (n+1) (grownCap w (n+1) c 58)) (w.drew.alloc (.cells ((cs++vs).toArray++Builtin.zeroCells zPin.cells (grownCap w (n+1) c 58-(n+1))) 58)):=λty=>
  run_append_grow_src w 27 26 ty 58 _ zPin Tryz.underlying27 hi hz base n c cs hold _ 1 vs hsrc hroom o5 (by rw[hb];exact growslice_fits hroom o5)
 obtain⟨W1,hW1⟩:∃W1,W1=w.drew.alloc (.cells ((cs++vs).toArray++Builtin.zeroCells zPin.cells (grownCap w (n+1) c 58-(n+1))) 58):=⟨_,rfl⟩;rw[<-hW1]at hrun ⊢;obtain⟨G,hG⟩:∃G,G=grownCap w (n+1) c 58:=⟨_,rfl⟩;rw[<-hG]at hrun ⊢;clear hW1 hG hz hzc;cases base with
 |none=>
  have h0:=hnil rfl;subst h0
  go_enter Tryz.func55,Tryz.ntmps55
  go_wp2_with (at_builtin;refine Lib.wpList_append_run _ rfl _ _ _ _ rfl _ _ rfl rfl _ _ (hrun _) ?_)
  go_ret
  exact⟨rfl,rfl⟩
 |some a=>
  obtain⟨ab,ao,asp⟩:=a;obtain⟨rfl,rfl⟩:=hbase _ rfl
  go_enter Tryz.func55,Tryz.ntmps55
  go_wp2_with (at_builtin;refine Lib.wpList_append_run _ rfl _ _ _ _ rfl _ _ rfl rfl _ _ (hrun _) ?_)
  go_ret
  exact⟨rfl,rfl⟩
end Go.Ev.Pv
namespace Go.Ev.Pv
variable [Pins]
open Go.Proofs Go.RowKit Go.Sort Go.Shelf Go.Lib
set_option maxHeartbeats 4000000 in
set_option maxRecDepth 1000000 in
theorem ACi(b n c i vb m vc:Nat)(cs vs:List Value)(w:World)(hi:i<n)(hm:0<m)(hroom:n+m<=c)(hnm:n+m<=281474976710656)(hvb:vb≠b)
 (hcl:cs.length=n*2)(hvl:vs.length=m*2)
 (hcs:∀j v,cs[j]?=some v->w.cell? ⟨b,j,none⟩=some v)(hsp:∀j,j<(n+m)*2->(w.cell? ⟨b,j,none⟩).isSome=true)(hfz:∀j,j<(n+m)*2->w.frozen? ⟨b,j,none⟩=false)
 (hvs:∀j v,vs[j]?=some v->w.cell? ⟨vb,j,none⟩=some v)(h1c:∀v∈cs,v.oneCell'=true)(h1v:∀v∈vs,v.oneCell'=true)
 (tA tB:TypeId)(kA kB:Nat)(hsa:w.shape? vb=some (tA,kA))(hsb:w.shape? b=some (tB,kB))(hkB:kB≠0)(hfa:w.frozen? ⟨vb,0,none⟩=false)(hfe:w.frozen? ⟨vb,kA,none⟩=false):
 Calls Tryz.prog 55 #[.slice (some ⟨b,0,none⟩) n c,.int .i64 i,.slice (some ⟨vb,0,none⟩) m vc] w λe w'=>
  e=.returned (.slice (some ⟨b,0,none⟩) (n+m) c)/\w'=(w.drew.setCells b ((i+m)*2) (cs.drop (i*2))).setCells b (i*2) vs:=by
 have mixed:Tryz.prog.follows Departure.mixedOrders=true:=oa
 obtain⟨hinfo,hz,hs,hb,hzc⟩:=M_;have hz1:¬((m:Int)=0):=o5
 have hz2:¬((i:Int)=(n:Int)):=o5
 have hov:∀lb cb,(callFunc 89 #[.slice (some ⟨vb,0,none⟩) m vc,.slice (some ⟨b,(i+m)*2,none⟩) lb cb]).run Tryz.prog w=.ok (.value (.bool false)) w:=λlb cb=>by
  rw [run_callFunc_extern Tryz.func89 oa oa oa (e:=Extern.SlicesOverlaps.overlaps #[26,26] #[4]) oa,
   Lib.run_overlaps_apart w 26 4 58 Tryz.underlying26 2 Tryz.sizeOf58 ⟨vb,0,none⟩ ⟨b,(i+m)*2,none⟩ m vc lb cb hvb tA tB kA kB hsa hsb hkB hfa hfe]
  rfl
 have hdl:(cs.drop (i*2)).length=(n-i)*2:=by rw[BP,hcl];omega
 have hw1:IntKind.i64.wrap ((i:Int)+(m:Int))=(i:Int)+(m:Int):=by rw[IntKind.wrap_i64];omega
 have hb1:(0:Int)<=(i:Int)+(m:Int):=o5
 have hin:i<=n:=o5
 have htn:((i:Int)+(m:Int)).toNat=i+m:=o5
 have hb2:¬(c=i+m):=o5
 have hb3:(i:Int)<=(n:Int)+(m:Int):=o5
 have hb4:¬(c=i):=o5
 have hcp1:∀ty dc sc,(Builtin.copy_ #[27,27] ty #[.slice (some ⟨b,(i+m)*2,none⟩) (n+m-(i+m)) dc,.slice (some ⟨b,i*2,none⟩) (n+m-i) sc]).run Tryz.prog w.drew=.ok (goInt ((n-i:Nat):Int)) (w.drew.setCells b ((i+m)*2) (cs.drop (i*2))):=λty dc sc=>by
  have h:=dJ w.drew 27 27 ty 58 _ b ((i+m)*2) (n+m-(i+m)) dc ⟨b,i*2,none⟩ (n+m-i) sc (cs.drop (i*2)) Tryz.underlying27 hinfo (by rw[hs,hdl];simp only[Nat.min_def];split<;>omega)
   (λj v hj=>by rw[Addr.add_lit];exact hcs (i*2+j) v (by rwa[AR]at hj))
   (λj hj=>hsp _ o5) (λj hj=>hfz _ o5) (λv hv=>h1c v (List.mem_of_mem_drop hv))
  rw[h,show Nat.min (n+m-i) (n+m-(i+m))=n-i by simp only[Nat.min_def];split<;>omega]
 obtain⟨W1,hW1⟩:∃W1,W1=w.drew.setCells b ((i+m)*2) (cs.drop (i*2)):=⟨_,rfl⟩
 have hsp1:∀k,k<(n+m)*2->(W1.cell? ⟨b,k,none⟩).isSome=true:=λk hk=>by
  rw[hW1];exact Go.Proofs.isSome_setCells b _ _ w.drew (λj hj=>hsp _ o5) _ (hsp k hk)
 have hcp2:∀(W:World),(∀x,W.cell? x=W1.cell? x)->(∀x,W.frozen? x=W1.frozen? x)->∀ty dc,(Builtin.copy_ #[27,26] ty #[.slice (some ⟨b,i*2,none⟩) (n+m-i) dc,.slice (some ⟨vb,0,none⟩) m vc]).run Tryz.prog W=.ok (goInt m) (W.setCells b (i*2) vs):=λW hWc hWf ty dc=>by
  have h:=dJ W 27 26 ty 58 _ b (i*2) (n+m-i) dc ⟨vb,0,none⟩ m vc vs Tryz.underlying27 hinfo (by rw[hs,hvl];simp only[Nat.min_def];split<;>omega)
   (λj v hj=>by
    rw[Addr.add_lit,B8,hWc,hW1,World.cell?_setCells_out b _ _ _ _ (λh _=>absurd h hvb)];exact hvs j v hj)
   (λj hj=>by rw[hWc];exact hsp1 _ o5) (λj hj=>by rw[hWf,hW1,World.frozen?_setCells];exact hfz _ o5) h1v
  rw[h,show Nat.min m (n+m-i)=m by simp only[Nat.min_def];split<;>omega]
 rw[<-hW1]at hcp1;clear hsp hfz hcs hvs h1c h1v hsp1 hz hzc
 go_enter Tryz.func55,Tryz.ntmps55
 go_wp2_with (simp only[hov])
 go_region_law_o (refine step_copy_runI rfl _ _ 27 27 rfl _ _ (by simp[Act.eval,Act.put]) (by simp[Act.eval,Act.put]) (hcp1 _ _ _) ?_)
 go_wp2_with (at_builtin;refine wpList_copy_runI _ rfl _ _ 27 26 rfl _ _ rfl rfl (hcp2 _ (λ_=>rfl) (λ_=>rfl) _ _) ?_)
 go_ret
 first|exact⟨rfl,rfl⟩|exact⟨rfl,by rw[hW1]⟩
end Go.Ev.Pv
namespace Go.Ev.Pv
variable [Pins]
open Go.Proofs Go.RowKit Go.Sort Go.Shelf Go.Lib
noncomputable def P4(w:World)(cs:List Value)(n m c i:Nat):Array Value:=
 (cs.take (i*2)).toArray++Builtin.zeroCells zPin.cells (n+m-i)++Builtin.zeroCells zPin.cells (grownCap w (n+m) c 58-(n+m))
set_option maxHeartbeats 4000000 in
set_option maxRecDepth 1000000 in
theorem ACj(b n c i vb m vc:Nat)(cs vs:List Value)(w:World)(hi:i<n)(hm:0<m)(hnc:n<=c)(hroom:c<n+m)(hbig:n+m<=2097152)
 (hcl:cs.length=n*2)(hvl:vs.length=m*2)
 (hcs:∀j v,cs[j]?=some v->w.cell? ⟨b,j,none⟩=some v)
 (hvs:∀j v,vs[j]?=some v->w.cell? ⟨vb,j,none⟩=some v)(h1c:∀v∈cs,v.oneCell'=true)(h1v:∀v∈vs,v.oneCell'=true):
 Calls Tryz.prog 55 #[.slice (some ⟨b,0,none⟩) n c,.int .i64 i,.slice (some ⟨vb,0,none⟩) m vc] w λe w'=>
  e=.returned (.slice (some ⟨w.heap.size,0,none⟩) (n+m) (grownCap w (n+m) c 58))/\
  w'=(((w.alloc (.cells (P4 w cs n m c i) 58)).drew.setCells w.heap.size (i*2) vs).drew).setCells w.heap.size ((i+m)*2) (cs.drop (i*2)):=by
 have mixed:Tryz.prog.follows Departure.mixedOrders=true:=oa
 obtain⟨hinfo,hz,hs,hb,hzc⟩:=M_;have hz1:¬((m:Int)=0):=o5
 have hz2:¬((i:Int)=(n:Int)):=o5
 have hz3:(c:Int)<(n:Int)+(m:Int):=o5
 have hbw:b<w.heap.size:=block_lt_of_cell (hcs 0 _ (A0 o5));have hvw:vb<w.heap.size:=block_lt_of_cell (hvs 0 _ (A0 o5));have hkk:(n:Int)+(m:Int)-(i:Int)=((n+m-i:Nat):Int):=o5
 have hik:i+(n+m-i)=n+m:=o5
 have hold:(Builtin.firstCells Tryz.t58.size i (.slice (some ⟨b,0,none⟩) i c)).run Tryz.prog w.drew=.ok (cs.take (i*2)).toArray w.drew:=by
  rw[hs]
  exact run_firstCells_some w.drew 2 i ⟨b,0,none⟩ i c (cs.take (i*2)) (by rw [B4]; omega) (λj v hj=>by
   rw[Addr.add_lit,B8];rw[AK]at hj;split at hj
   .exact hcs j v hj
   .cases hj)
 have hrz:∀ty,(Builtin.append_ #[27,3] ty #[.slice (some ⟨b,0,none⟩) i c,.int .i64 ((n:Int)+(m:Int)-(i:Int))]).run Tryz.prog w=
  .ok (.slice (some ⟨w.heap.size,0,none⟩) (n+m) (grownCap w (n+m) c 58)) (w.drew.alloc (.cells (P4 w cs n m c i) 58)):=λty=>by
  have h:=Lib.run_append_grow_zeros w 27 3 ty 58 _ zPin .i64 .i64 Tryz.underlying27 Tryz.underlying3 hinfo hz (some ⟨b,0,none⟩) i c (cs.take (i*2)) hold (n+m-i) o5 o5 o5 o5 (by rw[hb];omega) (by rw[hb,hik];exact growslice_fits hroom o5);rw[hik]at h;rw[hkk];exact h
 obtain⟨G,hG⟩:∃G,G=grownCap w (n+m) c 58:=⟨_,rfl⟩;obtain⟨ROW,hROW⟩:∃ROW:Array Value,ROW=P4 w cs n m c i:=⟨_,rfl⟩
 have hRl:(n+m)*2<=ROW.size:=by
  rw[hROW];unfold P4;simp[Builtin.zeroCells,hzc,hcl];omega
 rw[<-hG,<-hROW]at hrz ⊢;obtain⟨W1,hW1⟩:∃W1,W1=w.drew.alloc (.cells ROW 58):=⟨_,rfl⟩;rw[<-hW1]at hrz
 have hN:∀j,j<(n+m)*2->(W1.cell? ⟨w.heap.size,j,none⟩).isSome=true:=λj hj=>by
  rw[hW1,World.cell?_alloc_at (w:=w.drew) ROW _ w.heap.size j rfl,AY o5];rfl
 have hNf:∀j,W1.frozen? ⟨w.heap.size,j,none⟩=false:=λj=>by rw[hW1];exact World.frozen?_alloc_at (w:=w.drew) ROW _ w.heap.size j rfl
 have hOb:∀j v,w.cell? ⟨b,j,none⟩=some v->W1.cell? ⟨b,j,none⟩=some v:=λj v h=>by rw[hW1,World.cell?_alloc_past (w:=w.drew) _ b j hbw];exact h
 have hOv:∀j v,w.cell? ⟨vb,j,none⟩=some v->W1.cell? ⟨vb,j,none⟩=some v:=λj v h=>by rw[hW1,World.cell?_alloc_past (w:=w.drew) _ vb j hvw];exact h
 have hcpA:∀(W:World),(∀x,W.cell? x=W1.cell? x)->(∀x,W.frozen? x=W1.frozen? x)->∀ty dc,(Builtin.copy_ #[27,26] ty #[.slice (some ⟨w.heap.size,i*2,none⟩) (n+m-i) dc,.slice (some ⟨vb,0,none⟩) m vc]).run Tryz.prog W=.ok (goInt m) (W.setCells w.heap.size (i*2) vs):=λW hWc hWf ty dc=>by
  have h:=dJ W 27 26 ty 58 _ w.heap.size (i*2) (n+m-i) dc ⟨vb,0,none⟩ m vc vs Tryz.underlying27 hinfo (by rw[hs,hvl];simp only[Nat.min_def];split<;>omega)
   (λj v hj=>by rw[Addr.add_lit,B8,hWc];exact hOv _ v (hvs j v hj))
   (λj hj=>by rw[hWc];exact hN _ o5) (λj hj=>by rw[hWf];exact hNf _) h1v
  rw[h,show Nat.min m (n+m-i)=m by simp only[Nat.min_def];split<;>omega]
 have hGn:n+m<=G:=by rw[hG];exact grownCap_ge w _ _ _
 have hG63:G<=9223372036854775807:=by
  have:=grownCap_le_maxLen w (n+m) c 58 (by unfold maxLen;omega);rw[<-hG]at this;unfold maxLen at this;omega
 have hGi:¬(G=i):=o5
 have hGim:¬(G=i+m):=o5
 have hci:¬(c=i):=o5
 have hbN:b≠w.heap.size:=o5
 have hdl:(cs.drop (i*2)).length=(n-i)*2:=by rw[BP,hcl];omega
 have hcpB:∀(W:World),(∀x,W.cell? x=(W1.setCells w.heap.size (i*2) vs).cell? x)->(∀x,W.frozen? x=(W1.setCells w.heap.size (i*2) vs).frozen? x)->∀ty dc sc,(Builtin.copy_ #[27,27] ty #[.slice (some ⟨w.heap.size,(i+m)*2,none⟩) (n+m-(i+m)) dc,.slice (some ⟨b,i*2,none⟩) (n-i) sc]).run Tryz.prog W=.ok (goInt ((n-i:Nat):Int)) (W.setCells w.heap.size ((i+m)*2) (cs.drop (i*2))):=λW hWc hWf ty dc sc=>by
  have h:=dJ W 27 27 ty 58 _ w.heap.size ((i+m)*2) (n+m-(i+m)) dc ⟨b,i*2,none⟩ (n-i) sc (cs.drop (i*2)) Tryz.underlying27 hinfo (by rw[hs,hdl];simp only[Nat.min_def];split<;>omega)
   (λj v hj=>by
    rw[Addr.add_lit,hWc,World.cell?_setCells_out _ _ _ _ _ (λh _=>absurd h hbN)];exact hOb _ v (hcs (i*2+j) v (by rwa[AR]at hj)))
   (λj hj=>by rw[hWc];exact Go.Proofs.isSome_setCells _ _ _ W1 (λt ht=>hN _ o5) _ (hN _ o5))
   (λj hj=>by rw[hWf,World.frozen?_setCells];exact hNf _) (λv hv=>h1c v (List.mem_of_mem_drop hv))
  rw[h,show Nat.min (n-i) (n+m-(i+m))=n-i by simp only[Nat.min_def];split<;>omega]
 subst hW1;have hE1:∀x,((w.alloc (.cells ROW 58)).drew).cell? x=(w.drew.alloc (.cells ROW 58)).cell? x:=λx=>rfl;have hE2:∀x,((w.alloc (.cells ROW 58)).drew).frozen? x=(w.drew.alloc (.cells ROW 58)).frozen? x:=λx=>rfl;have hF1:∀x,(((w.alloc (.cells ROW 58)).drew.setCells w.heap.size (i*2) vs).drew).cell? x=((w.drew.alloc (.cells ROW 58)).setCells w.heap.size (i*2) vs).cell? x:=λx=>rfl;have hF2:∀x,(((w.alloc (.cells ROW 58)).drew.setCells w.heap.size (i*2) vs).drew).frozen? x=((w.drew.alloc (.cells ROW 58)).setCells w.heap.size (i*2) vs).frozen? x:=λx=>rfl;have hw1:IntKind.i64.wrap ((i:Int)+(m:Int))=(i:Int)+(m:Int):=by rw[IntKind.wrap_i64];omega
 have hb1:(0:Int)<=(i:Int)+(m:Int):=o5
 have hin:i<=n:=o5
 have htn:((i:Int)+(m:Int)).toNat=i+m:=o5
 have hb3:(i:Int)<=(n:Int):=o5
 clear hkk hik hold hROW hG hRl hz hzc
 go_enter Tryz.func55,Tryz.ntmps55
 go_wp2_with (first
  |(at_builtin;refine Lib.wpList_append_run _ rfl _ _ _ _ rfl _ _ rfl rfl _ _ (hrz _) ?_)
  |(at_builtin;refine wpList_copy_runI _ rfl _ _ 27 26 rfl _ _ rfl rfl (hcpA _ hE1 hE2 _ _) ?_)
  |(at_builtin;refine wpList_copy_runI _ rfl _ _ 27 27 rfl _ _ rfl rfl (hcpB _ (λ_=>rfl) (λ_=>rfl) _ _ _) ?_))
 go_region_law_o (refine step_copy_runI rfl _ _ 27 27 rfl (.slice (some ⟨w.heap.size,(i+m)*2,none⟩) (n+m-(i+m)) (G-(i+m))) (.slice (some ⟨b,i*2,none⟩) (n-i) (c-i)) (by simp[Act.eval,Act.put]) (by simp[Act.eval,Act.put]) (hcpB _ hF1 hF2 3 (G-(i+m)) (c-i)) ?_)
 go_wp2
 go_ret
 exact⟨rfl,rfl⟩
end Go.Ev.Pv
namespace Go.Proofs
open Tryz
open Go.Shelf
def Tryz.pdq113_ren:Go.Shelf.Ren:=⟨λ|14=>113|20=>146|21=>147|22=>148|23=>149|24=>150|25=>151|26=>152|27=>153|46=>197|47=>193|48=>194|49=>198|50=>199|15=>111|57=>243|28=>144|29=>145|n=>n,λ|24=>58|22=>26|3=>3|25=>157|4=>4|0=>0|46=>244|45=>243|50=>163|66=>308|39=>185|55=>253|70=>312|76=>348|77=>349|53=>251|5=>5|9=>9|n=>n,λ|n=>n⟩
theorem Tryz.pdq113:Go.Proofs.SlLaysF0.n14 Tryz.prog Tryz.pdq113_ren:={
 mixed:=oa
 f14:=⟨Tryz.f113.name,od,fk func113⟩
 f15:=fk func111
 f20:=⟨Tryz.f146.name,od,fk func146⟩
 f21:=⟨Tryz.f147.name,od,fk func147⟩
 f22:=⟨Tryz.f148.name,od,fk func148⟩
 f23:=⟨Tryz.f149.name,od,fk func149⟩
 f24:=⟨Tryz.f150.name,od,fk func150⟩
 f25:=⟨Tryz.f151.name,od,fk func151⟩
 f26:=⟨Tryz.f152.name,od,fk func152⟩
 f27:=⟨Tryz.f153.name,od,fk func153⟩
 f28:=fk func144
 f29:=fk func145
 f46:=⟨Tryz.f197.name,od,fk func197⟩
 f47:=fk func193
 f48:=fk func194
 f49:=⟨Tryz.f198.name,od,fk func198⟩
 f50:=⟨Tryz.f199.name,od,fk func199⟩
 f57:=⟨Tryz.f243.name,od,fk func243⟩
 t0:=underlying0
 a0:=isAgg0
 z0:=sizeOf0
 v0:=zeroValue0
 t3:=underlying3
 a3:=isAgg3
 z3:=sizeOf3
 v3:=zeroValue3
 t4:=underlying4
 a4:=isAgg4
 z4:=sizeOf4
 v4:=zeroValue4
 t5:=underlying5
 a5:=isAgg5
 z5:=sizeOf5
 v5:=zeroValue5
 t9:=underlying9
 a9:=isAgg9
 z9:=sizeOf9
 v9:=zeroValue9
 t22:=underlying26
 a22:=isAgg26
 z22:=sizeOf26
 v22:=zeroValue26
 t25:=underlying157
 a25:=isAgg157
 z25:=sizeOf157
 v25:=zeroValue157
 t39:=underlying185
 a39:=isAgg185
 z39:=sizeOf185
 v39:=zeroValue185
 t45:=underlying243
 a45:=isAgg243
 z45:=sizeOf243
 v45:=zeroValue243
 t46:=underlying244
 a46:=isAgg244
 z46:=sizeOf244
 v46:=zeroValue244
 t50:=underlying163
 a50:=isAgg163
 z50:=sizeOf163
 v50:=zeroValue163
 t53:=underlying251
 a53:=isAgg251
 z53:=sizeOf251
 v53:=zeroValue251
 t55:=underlying253
 a55:=isAgg253
 z55:=sizeOf253
 v55:=zeroValue253
 t66:=underlying308
 a66:=isAgg308
 z66:=sizeOf308
 v66:=zeroValue308
 t70:=underlying312
 a70:=isAgg312
 z70:=sizeOf312
 v70:=zeroValue312
 t76:=underlying348
 a76:=isAgg348
 z76:=sizeOf348
 v76:=zeroValue348
 t77:=underlying349
 a77:=isAgg349
 z77:=sizeOf349
 v77:=zeroValue349}
def Tryz.len111_ren:Go.Shelf.Ren:=⟨λ|15=>111|28=>144|29=>145|n=>n,λ|39=>185|3=>3|53=>251|55=>253|4=>4|5=>5|9=>9|n=>n,λ|n=>n⟩
theorem Tryz.len111:Go.Proofs.SlLaysF0.n15 Tryz.prog Tryz.len111_ren:={
 mixed:=oa
 f15:=fk func111
 f28:=fk func144
 f29:=fk func145
 t3:=underlying3
 a3:=isAgg3
 z3:=sizeOf3
 v3:=zeroValue3
 t4:=underlying4
 a4:=isAgg4
 z4:=sizeOf4
 v4:=zeroValue4
 t5:=underlying5
 a5:=isAgg5
 z5:=sizeOf5
 v5:=zeroValue5
 t9:=underlying9
 a9:=isAgg9
 z9:=sizeOf9
 v9:=zeroValue9
 t39:=underlying185
 a39:=isAgg185
 z39:=sizeOf185
 v39:=zeroValue185
 t53:=underlying251
 a53:=isAgg251
 z53:=sizeOf251
 v53:=zeroValue251
 t55:=underlying253
 a55:=isAgg253
 z55:=sizeOf253
 v55:=zeroValue253}
end Go.Proofs
namespace Go.Ev.Pv
variable [Pins]
open Go.Proofs Go.RowKit Go.Sort Go.Shelf Go.Lib
section
variable{P:Program}{w:World}{I:Im}
theorem ACk{f el:Nat}{p:Ty}(hn:∀(a:Option Addr) (cap:Nat) (fv:Value) (w:World),Calls P f #[.slice a 0 cap,fv] w λe w'=>e=.returned (.tuple #[])/\w'=w)
 (heq:∀ {α:Type} [Inhabited α] (enc:α->List Value),(∀ x,(enc x).length=p.sz)->(∀ x,∀ v∈enc x,v.oneCell'=true)->∀ (cf:α->α->Int),SWO (ltOf cf)->∀ (g:Nat) (cb:Array Value) (blk off cap:Nat) (d:Array α) (w:World),
  (∀args w,(callFunc g args).run P w=.ok (.enter g args) w)->CmpLays P g cb enc p.sz cf blk off d.size w->HoldsK enc p.sz w blk off d->blk<w.heap.size->d.size<4611686018427387904->
  Calls P f #[.slice (some ⟨blk,off,none⟩) d.size cap,.func (.func g) #[] cb] w λe w'=>e=.returned (.tuple #[])/\∃n os,w'=sortWorldK enc p.sz w blk off n (pdq (ltOf cf) d 0 d.size (Lib.bitLen d.size) true true) os)(hp:0<p.sz):
 FunOK P f ⟨[.io el (.agg p),.hof true (.prod (.agg p) (.agg p)) (.int .i64)],[],λv=>KA v.1 v.2,true⟩:=by
 intro w I v args bs hm hsh hnd r hr;obtain⟨v1,vs,b1,b2,rfl,rfl,h1,v2,rfl,rfl,g,lb,hv2,hent,hof⟩:=hsh;obtain rfl:=A5.1 hv2;obtain⟨xs,F⟩:List p.T×(p.T×p.T->Option Int):=v;have hr:KA xs F=some r:=hr
 have none_:∀(a:Option Addr) (cap:Nat),v1=.slice a 0 cap->xs=[]->
  Calls P f #[v1,.func (.func g) #[] lb] w λe w'=>∃rv vs I' bs',e=.returned rv/\vs.length=0/\IV vs rv/\After (·∈b1++[]) w I w' I'/\
   ShL P w' I' [.io el (.agg p)] r (vs++[v1]) bs'/\bs'.Nodup/\(∀b∈bs',b∈b1++[]\/w.heap.size<=b)/\(true=true->w.drawn<=w'.drawn):=by
  intro a cap hv hxs;subst hxs
  have hr:r=([]:List p.T):=by
   have:KA ([]:List p.T) F=some []:=rfl;rw[this]at hr;cases hr;rfl
  subst hv;refine(hn a cap _ w).mono λe w' ⟨he,hw⟩=>?_;subst hw;rw[C3]at hnd ⊢;refine⟨_,[],I,b1,he,rfl,rfl,After.refl hm,⟨_,rfl,?_⟩,hnd,λb hb=>.inl hb,λ_=>AB _⟩;rw[hr];exact h1
 rcases h1 with⟨e1,e2,rfl⟩|⟨b,cap,cells,e1,rfl,hl,⟨fz,hb,hfz⟩,hcs,hrow,hI,_,hO⟩
 .exact none_ none 0 (A5.1 e1) e2
 .have e1:v1=.slice (some ⟨b,0,none⟩) xs.length cap:=A5.1 e1;by_cases h0:0<xs.length
  .subst e1;unfold KA at hr;rw[dif_pos h0]at hr;obtain⟨⟨hs1,hs2,hs3,hs4⟩,hr⟩:=LM hr;have hr:(H6 xs F h0).toList.map xs.get=r:=A3 hr
   letI:Inhabited (Fin xs.length):=⟨⟨0,h0⟩⟩
   let k:=p.sz
   have hcs:cells.size=cap*k:=hcs;have hcap:xs.length<=cap:=hl.1
   have hmul:∀i,i<xs.length->i*k+k<=cells.size:=by
    intro i hi;have:(i+1)*k<=cap*k:=B1 k o5;rw[hcs];rw[CF]at this;omega
   let enc:Fin xs.length->List Value:=λi=>(cells.toList.drop (i.val*k)).take k
   have hrel:∀i:Fin xs.length,Rel w I (.agg p) (xs.get i) (enc i):=λi=>hrow i.val (xs.get i) (A0 i.isLt)
   have hk:∀x,(enc x).length=k:=by
    intro x;have:=hmul x.val x.isLt;simp only[enc,B4,BP,BR];omega
   have hone:∀x,∀v∈enc x,v.oneCell'=true:=λx=>(hrel x).oneCell
   have hget:∀(i:Fin xs.length) (c:Nat),c<k->(enc i)[c]! =cells[i.val*k+c]!:=by
    intro i c hc;have h2:=hmul i.val i.isLt;have hlt:i.val*k+c<cells.size:=o5
    rw[getElem!_pos (enc i) c (by rw[hk];exact hc),getElem!_pos cells _ hlt];simp[enc]
   have hO':SWO (ltOf (IY xs F)):=⟨λx=>hs2 x,λx y z=>hs3 x y z,λx y z=>hs4 x y z⟩
   have hcmp:CmpLays P g lb enc k (IY xs F) b 0 xs.length w:=by
    intro m os dk _ x y;obtain⟨hx,hm'⟩:=dI (enc:=enc) (k:=k) (n:=m) (D:=dk) (os:=os) hb hm (hI rfl) hO;obtain⟨c,hc⟩:=Option.isSome_iff_exists.1 (hs1 x y)
    have:=hof _ I hx hm' (xs.get x,xs.get y) [.agg (enc x).toArray,.agg (enc y).toArray]
     ⟨_,_,rfl,⟨enc x,rfl,(hrel x).ext hx⟩,_,rfl,enc y,rfl,(hrel y).ext hx⟩ c hc
    refine this.mono λe w'' ⟨rv,I'',q1,q2,⟨c',q3,q4,_⟩,q5⟩=>?_;have q3:c'=[rv]:=q3;rw[q3]at q4;have q4:rv=.int .i64 c:=A5.1 q4;refine⟨?_,?_⟩
    .rw[q1,q4];unfold IY;rw[hc];rfl
    .obtain⟨⟨d,os'⟩,hw⟩:=regrown_of_below (w:=sortWorldK enc k w b 0 m dk os) (w':=w'') ⟨q2.os,q2.tape,q2.output,q2.size,λj hj=>q2.heap j hj λh=>h⟩;have hd:=q5 rfl;refine⟨d-(sortWorldK enc k w b 0 m dk os).drawn,os',?_⟩;have hdd:w''.drawn=d:=by rw[hw];rfl
     rw[hw];simp only[grow,redrawn,World.drewN]
     congr 1
     omega
   have hds:(Array.ofFn (id:Fin xs.length->Fin xs.length)).size=xs.length:=oc
   have hdi:∀(j:Nat) (hj:j<xs.length),(Array.ofFn (id:Fin xs.length->Fin xs.length))[j]! =⟨j,hj⟩:=by
    intro j hj;rw[getElem!_pos _ j om];simp
   have hdm:∀j,j<xs.length*k->j / k<xs.length/\j % k<k/\j / k*k+j % k=j:=λj hj=>
    ⟨(Nat.div_lt_iff_lt_mul hp).2 hj,Nat.mod_lt _ hp,Nat.div_add_mod' j k⟩
   have hH:HoldsK enc k w b 0 (Array.ofFn (id:Fin xs.length->Fin xs.length)):=by
    intro j hj;rw[size_flatK,hds]at hj;obtain⟨d1,d2,d3⟩:=hdm j hj;rw[get_flatK _ _ _ _ (by rw[hds];exact hj),hdi _ d1,hget _ _ d2,d3]
    have hjc:j<cells.size:=by
     have:=hmul _ d1;have:j<j / k*k+k:=o5
     omega
    refine⟨?_,?_⟩
    .simp only[World.cell?,hb,B8,id];rw[getElem!_pos cells j hjc];simp[hjc]
    .simp only[World.frozen?,hb,B8];rcases hfz with h|h
     .simp;omega
     .simp;omega
   have hblk:b<w.heap.size:=(BC.1 hb).1;have hsz:(Array.ofFn (id:Fin xs.length->Fin xs.length)).size<4611686018427387904:=by rw[hds];have:xs.length<=281474976710656:=hl.2;omega
   have hcon:=heq enc hk hone (IY xs F) hO' g lb b 0 cap (Array.ofFn id) w (A18 hent) (by rw[hds];exact hcmp) hH hblk hsz;have hsorts:=pdq_sorts (ltOf (IY xs F)) hO' (Array.ofFn (id:Fin xs.length->Fin xs.length)) 0 xs.length (Lib.bitLen xs.length) true true (BQ _) (by rw[hds];exact AB _) (.inl rfl);rw[hds]at hcon;have hD:pdq (ltOf (IY xs F)) (Array.ofFn (id:Fin xs.length->Fin xs.length)) 0 xs.length (Lib.bitLen xs.length) true true=H6 xs F h0:=(jP xs F h0).symm;rw[hD]at hcon hsorts;have hDs:(H6 xs F h0).size=xs.length:=by have:=hsorts.1.1;rw[hds]at this;exact this
   refine hcon.mono λe w' ⟨he,n,os,hw⟩=>?_;obtain⟨a1,a2,a3,a4⟩:=pO (enc:=enc) (k:=k) (n:=n) (D:=H6 xs F h0) (os:=os) hb;obtain⟨x1,x2⟩:=dI (enc:=enc) (k:=k) (n:=n) (D:=H6 xs F h0) (os:=os) hb hm (hI rfl) hO;rw[<-hw]at a1 a2 a3 a4 x1 x2
   have hlen:(show List p.T from r).length=xs.length:=by
    have:((H6 xs F h0).toList.map xs.get).length=xs.length:=by rw[B2,BR,hDs]
    rw[hr]at this;exact this
   have hpc:(putCells id 0 (flatK enc k (H6 xs F h0)) cells).size=cells.size:=by simp[putCells]
   refine⟨_,[],I,[b],he,rfl,rfl,⟨x1,λj hj hn=>a2 j (λe=>hn (by rw[e];simp)) hj,a3,λ_ _ h=>.inl h,λ_ h=>.inl h,x2.1,x2.2.1,by rw[hw];rfl,by rw[hw];rfl,by rw[hw];rfl,x2.2.2⟩,?_,oc,λj hj=>.inl om,λ_=>by rw[a4];omega⟩;refine⟨_,rfl,.inr ⟨b,cap,_,?_,rfl,?_,⟨fz,a1,by rw[hpc];exact hfz⟩,by rw[hpc];exact hcs,?_,hI,(λh=>oe),hO⟩⟩
   .exact congrArg (λn=>[Value.slice (some ⟨b,0,none⟩) n cap]) hlen.symm
   .have:GL xs.length cap:=hl;rw[<-hlen]at this;exact this
   .intro i y hy;have hy:((H6 xs F h0).toList.map xs.get)[i]?=some y:=by rw[hr];exact hy
    rw[AV]at hy;cases hi:(H6 xs F h0).toList[i]? with
    |none=>rw[hi]at hy;cases hy
    |some q=>
     rw[hi]at hy;cases hy;have hil:i<xs.length:=by have:=(A8.1 hi).1;rw[BR,hDs]at this;exact this
     have hDi:(H6 xs F h0)[i]! =q:=by
      have:=(A8.1 hi).2;rw[getElem!_pos _ i (by rw[hDs];exact hil)];simpa using this
     have heq:((putCells id 0 (flatK enc k (H6 xs F h0)) cells).toList.drop (i*k)).take k=enc q:=by
      apply BV;intro c;by_cases hc:c<k
      .have hlt:i*k+c<cells.size:=by have:=hmul i hil;omega
       have hlt2:i*k+c<xs.length*k:=by
        have:(i+1)*k<=xs.length*k:=B1 k o5;rw[CF]at this;omega
       have hdiv:(i*k+c) / k=i:=by rw[CU,Nat.mul_add_div hp,Nat.div_eq_of_lt hc];omega
       have hmod:(i*k+c) % k=c:=by rw[CU,Nat.mul_add_mod,Nat.mod_eq_of_lt hc]
       rw[AK,if_pos hc,AR,BE];simp only[putCells,Array.getElem?_mapIdx];rw[AY hlt];simp only[BD];rw[if_pos ⟨BQ _,by rw[size_flatK,hDs];omega⟩,Nat.sub_zero,get_flatK _ _ _ _ (by rw[hDs];exact hlt2),hdiv,hmod,hDi];rw[getElem!_pos (enc q) c (by rw[hk];exact hc)];simp[hk,hc]
      .rw[B9 og,B9 (by rw[hk];omega)]
     rw[show(Ty.agg p).sz=k from rfl,heq];exact(hrel q).ext x1
  .have hx:xs=[]:=AJ o5;exact none_ (some ⟨b,0,none⟩) cap (by rw[e1,hx];rfl) hx
end
theorem ACl(a:Option Addr)(cap:Nat)(fv:Value)(w:World):Calls Tryz.prog 85 #[.slice a 0 cap,fv] w λe w'=>e=.returned (.tuple #[])/\w'=w:=by
 have mixed:Tryz.prog.follows Departure.mixedOrders=true:=oa
 have L:=Tryz.pdq113;have e14:∀args w,(callFunc 113 args).run Tryz.prog w=.ok (.enter 113 args) w:=L.f14.enters rfl;have e15:∀args w,(callFunc 111 args).run Tryz.prog w=.ok (.enter 111 args) w:=enters_of L.f15 oa rfl;have hp:∀lim W,Calls Tryz.prog 113 #[.slice a 0 cap,.int .i64 0,.int .i64 0,.int .i64 lim,fv] W λe w'=>e=.returned (.tuple #[])/\w'=W:=λlim W=>AnyF.pdqsortCmpFunc_none (P:=Tryz.prog) (ρ:=Tryz.pdq113_ren) L a cap lim fv W
 have hl:∀W,Calls Tryz.prog 111 #[.int .u64 0] W λe w'=>e=.returned (.int .i64 (Lib.bitLen 0:Nat))/\w'=W:=λW=>by
  have h:=Any.bits_Len (SlLaysF0.n15.bits (P:=Tryz.prog) (ρ:=Tryz.len111_ren) Tryz.len111) 0 W o5 o5;exact h
 go_enter Tryz.func85,Tryz.ntmps85
 go_wp2_with (first|(go_at_fn 111;refine(hl _).mono ?_;rintro e w' ⟨rfl,rfl⟩)|(go_at_fn 113;refine(hp _ _).mono ?_;rintro e w' ⟨rfl,rfl⟩))
 go_end0
 exact⟨rfl,rfl⟩
set_option maxHeartbeats 2000000 in
theorem ACm{α:Type} [Inhabited α](enc:α->List Value)(hk:∀x,(enc x).length=2)(h1:∀x,∀v∈enc x,v.oneCell'=true)(cf:α->α->Int)(hO:SWO (ltOf cf))(g:Nat)(cb:Array Value)(blk off cap:Nat)(d:Array α)(w:World)
 (eg:∀args w,(callFunc g args).run Tryz.prog w=.ok (.enter g args) w)(hcmp:CmpLays Tryz.prog g cb enc 2 cf blk off d.size w)(hH:HoldsK enc 2 w blk off d)(hblk:blk<w.heap.size)(hsz:d.size<4611686018427387904):
 Calls Tryz.prog 85 #[.slice (some ⟨blk,off,none⟩) d.size cap,.func (.func g) #[] cb] w λe w'=>e=.returned (.tuple #[])/\∃n os,w'=sortWorldK enc 2 w blk off n (pdq (ltOf cf) d 0 d.size (Lib.bitLen d.size) true true) os:=by
 have mixed:Tryz.prog.follows Departure.mixedOrders=true:=oa
 have L:=Tryz.pdq113;have e14:∀args w,(callFunc 113 args).run Tryz.prog w=.ok (.enter 113 args) w:=L.f14.enters rfl;have e15:∀args w,(callFunc 111 args).run Tryz.prog w=.ok (.enter 111 args) w:=enters_of L.f15 oa rfl;have hlim:Lib.bitLen d.size<4611686018427387904:=Nat.lt_of_le_of_lt (Lib.bitLen_le d.size 62 o5 o5) o5
 have hp:Calls Tryz.prog 113 #[.slice (some ⟨blk,off,none⟩) d.size cap,.int .i64 (0:Nat),.int .i64 d.size,.int .i64 (Lib.bitLen d.size),.func (.func g) #[] cb] w λe w'=>e=.returned (.tuple #[])/\SWK enc 2 w blk off (pdq (ltOf cf) d 0 d.size (Lib.bitLen d.size) true true) w':=
  AnyQ.pdqsortCmpFunc_all (P:=Tryz.prog) (ρ:=Tryz.pdq113_ren) L 2 Tryz.isAgg58 Tryz.sizeOf58 enc cf g cb hO blk off cap d w eg hcmp ⟨hk,h1,hH,hblk⟩ (d.size+1) 0 d.size (Lib.bitLen d.size) d w o5 rfl (SWK.start hH) (BQ _) (AB _) hsz hlim (Or.inl rfl)
 have hl:Calls Tryz.prog 111 #[.int .u64 (d.size:Int)] w λe w'=>e=.returned (.int .i64 (Lib.bitLen d.size:Nat))/\w'=w:=by
  have h:=Any.bits_Len (SlLaysF0.n15.bits (P:=Tryz.prog) (ρ:=Tryz.len111_ren) Tryz.len111) (d.size:Int) w o5 o5;rwa[CQ]at h
 have wr:IntKind.u64.wrap (d.size:Int)=d.size:=by simp[IntKind.wrap,IntKind.bits,IntKind.signed];omega
 clear hH hcmp hk h1
 go_enter Tryz.func85,Tryz.ntmps85
 go_wp2_with (first|(go_at_fn 111;refine hl.mono ?_;rintro e w' ⟨rfl,rfl⟩)|(go_at_fn 113;refine hp.mono ?_;rintro e w' ⟨rfl,n,os,rfl⟩))
 go_end0
 exact⟨rfl,n,os,rfl⟩
noncomputable def ACn:FSpec:=⟨[.io 58 (.agg (.prod .str .str)),.hof true (.prod (.agg (.prod .str .str)) (.agg (.prod .str .str))) (.int .i64)],[],xG,true⟩
theorem ACo:F6 Go.Proofs.Tryz.prog 85/\FunOK Go.Proofs.Tryz.prog 85 ACn:=
 ⟨HV Tryz.func85 oa oa,ACk ACl ACm od⟩
end Go.Ev.Pv
namespace Go.Proofs
open Tryz
open Go.Shelf
def Tryz.lays190_ren:Go.Shelf.Ren:=⟨λ|190=>81|125=>111|258=>110|128=>144|129=>145|302=>135|303=>136|304=>137|305=>138|306=>139|307=>140|308=>141|309=>142|310=>143|333=>192|329=>193|330=>194|334=>195|335=>196|336=>114|344=>242|n=>n,λ|31=>28|9=>9|3=>3|46=>185|0=>0|51=>251|53=>253|4=>4|183=>244|182=>243|131=>163|5=>5|218=>308|222=>312|228=>348|229=>349|n=>n,λ|n=>n⟩
theorem Tryz.lays190:Go.Proofs.Lays.n190 Tryz.prog Tryz.lays190_ren:=by repeat' first|(intros;kernel_rfl)|decide|constructor
open Go.Sort Go.RowKit in
theorem Tryz.slices_Sort_string(blk off cap:Nat)(ss:List (List UInt8))(w:World)(hH:Holds encStr w blk off ss.toArray)(hblk:blk<w.heap.size)(hsz:ss.length<4611686018427387904):
 Calls Tryz.prog 81 #[.slice (some ⟨blk,off,none⟩) ss.length cap] w λe w'=>
  e=.returned (.tuple #[])/\∃n os,w'=grow (putRow encStr (Sort.ahead w n) blk off (ss.mergeSort λx y=>decide (x<=y)).toArray) os:=Any.slices_Sort_string Tryz.lays190 blk off cap ss w hH hblk hsz
def Tryz.lays194_ren:Go.Shelf.Ren:=⟨λ|194=>82|n=>n,λ|31=>28|9=>9|3=>3|4=>4|0=>0|n=>n,λ|n=>n⟩
theorem Tryz.lays194:Go.Proofs.Lays.n194 Tryz.prog Tryz.lays194_ren:=by repeat' first|(intros;kernel_rfl)|decide|constructor
open Go.RowKit Go.Lib Go.Sort in
theorem Tryz.slices_Compact_string(blk off cap:Nat)(zs:List (List UInt8))(w:World)(hH:Holds encStr w blk off zs.toArray)(hsz:zs.length<=9223372036854775807)(hcap:zs.length<=cap):
 Calls Tryz.prog 82 #[.slice (some ⟨blk,off,none⟩) zs.length cap] w λe w'=>e=.returned (.slice (some ⟨blk,off,none⟩) (Lib.compact zs).length cap)/\∃q,w'=putRow encStr (Sort.ahead w q) blk off (Lib.compact zs++List.replicate (zs.length-(Lib.compact zs).length) []).toArray:=Any.slices_Compact_string Tryz.lays194 blk off cap zs w hH hsz hcap
open Go.RowKit Go.Lib Go.Sort in
theorem Tryz.slices_Compact_string_empty(a:Option Addr)(cap:Nat)(w:World):
 Calls Tryz.prog 82 #[.slice a 0 cap] w λe w'=>e=.returned (.slice a 0 cap)/\w'=w:=Any.slices_Compact_string_empty Tryz.lays194 a cap w
open Go.RowKit Go.Sort in
theorem Tryz.slices_Sort_string_none(p:Option Addr)(cap:Nat)(w:World):
 Calls Tryz.prog 81 #[.slice p 0 cap] w λe w'=>e=.returned (.tuple #[])/\w'=w:=Any.slices_Sort_string_none Tryz.lays190 p cap w
end Go.Proofs
namespace Go.Ev.Pv
open Go.Proofs Go.RowKit Go.Sort Go.Shelf
structure StrAt(w:World)(I:Im)(el:Nat)(xs:List DW)(b cap:Nat)(cells:Array Value):Prop where
 len:GL xs.length cap
 row:RowAt w b cells el
 sz:cells.size=cap*1
 rows:RowsOK w I .str xs cells.toList
 noC:∀o,¬I.cell b o
 noO:¬I.obj b
theorem StrAt.get{w:World}{I:Im}{el:Nat}{xs:List DW}{b cap:Nat}{cells:Array Value}(h:StrAt w I el xs b cap cells)(j:Nat)(hj:j<xs.length):
 cells[j]?=some (encStr xs[j])/\xs[j].length<=281474976710656:=by
 obtain⟨h1,h2⟩:=h.rows j xs[j] (A0 hj);refine⟨?_,h2⟩;have h1:(cells.toList.drop (j*1)).take 1=[encStr xs[j]]:=h1;rw[CV]at h1;have h3:=congrArg (λl:List Value=>l[0]?) h1;simpa using h3
theorem StrAt.holds{w:World}{I:Im}{el:Nat}{xs:List DW}{b cap:Nat}{cells:Array Value}(h:StrAt w I el xs b cap cells):Holds encStr w b 0 xs.toArray:=by
 intro j hj;have hj:j<xs.length:=om
 obtain⟨h1,_⟩:=h.get j hj;have hjc:j<cells.size:=(BC.1 h1).1;obtain⟨fz,hb,hfz⟩:=h.row;refine⟨?_,?_⟩
 .simp only[World.cell?,hb,B8];simp[h1,hj]
 .simp only[World.frozen?,hb,B8];rcases hfz with h|h
  .simp;omega
  .simp;omega
theorem StrAt.put{w:World}{I:Im}{el:Nat}{xs:List DW}{b cap:Nat}{cells:Array Value}(h:StrAt w I el xs b cap cells)(hm:GM w I)(ys zs:List DW)(hl:ys.length=xs.length)
 (hz:∀(i:Nat) (z:DW),zs[i]?=some z->ys[i]?=some z)(hb:∀y∈zs,y.length<=281474976710656){w':World}{n:Nat}{os:Array Go.Obj}(hw:w'=grow (putRow encStr (Sort.ahead w n) b 0 ys.toArray) os):
 After (·∈[b]) w I w' I/\StrAt w' I el zs b cap (putCells encStr 0 ys.toArray cells)/\w.drawn<=w'.drawn:=by
 obtain⟨fz,hbl,hfz⟩:=h.row;have hlt:b<w.heap.size:=(BC.1 hbl).1
 have a1:w'.heap[b]?=some (.cells (putCells encStr 0 ys.toArray cells) el fz):=by
  rw[hw,dH _ _ _ (by simpa using hlt)];exact A1A encStr _ b 0 _ hbl
 have a2:∀j,j≠b->j<w.heap.size->w'.heap[j]?=w.heap[j]?:=λj hj hjl=>by
  rw[hw,dH _ _ _ (by simpa using hjl)];exact A19 encStr _ b 0 _ j hj
 have a3:w.heap.size<=w'.heap.size:=by rw[hw];simp
 have hpc:(putCells encStr 0 ys.toArray cells).size=cells.size:=by simp[putCells]
 have x1:Ext w I w' I:=⟨λj o hc=>⟨hc,by simp only[World.cell?,a2 j (λe=>h.noC o (e▸hc)) (hm.1 j o hc)]⟩,λj ho=>⟨ho,a2 j (λe=>h.noO (e▸ho)) (hm.2.1 j ho)⟩⟩
 have hzl:zs.length<=xs.length:=by
  rw[<-hl];apply BY;intro hn;have h1:=hz ys.length (zs[ys.length]'(o5)) (A0 _);rw[B9 (AB _)]at h1;cases h1
 refine ⟨⟨x1,λj hj hn=>a2 j (λe=>hn (by rw [e]; simp)) hj,a3,λ_ _ h=>.inl h,λ_ h=>.inl h,λj o hc=>B0 (hm.1 j o hc) a3,λj ho=>B0 (hm.2.1 j ho) a3,by rw [hw]; rfl,by rw [hw]; rfl,by rw [hw]; rfl,hm.2.2.ext x1⟩,
  ⟨⟨AU hzl h.len.1,AU hzl h.len.2⟩,⟨fz,a1,by rw[hpc];exact hfz⟩,by rw[hpc];exact h.sz,?_,h.noC,h.noO⟩,by rw[hw];exact Nat.le_add_right _ _⟩
 intro i z hi;have hi2:=hz i z hi;have hil:i<ys.length:=(A8.1 hi2).1;have hic:i<cells.size:=by rw[h.sz,CV];have:=h.len.1;omega
 refine⟨?_,hb z (B5 hi)⟩
 have hv:(ys.toArray)[i]! =z:=by
  rw[getElem!_pos _ i (by simpa using hil)];have:=(A8.1 hi2).2;simpa using this
 show((putCells encStr 0 ys.toArray cells).toList.drop (i*1)).take 1=[encStr z];rw[CV];apply BV;intro c;cases c with
 |zero=>
  rw[AK,if_pos o5,AR,BE];simp only[putCells,Array.getElem?_mapIdx,CI];rw[AY hic];simp only[BD];rw[if_pos ⟨BQ _,by simpa using hil⟩,Nat.sub_zero,hv];rfl
 |succ c=>rw[B9 og,B9 oc]
theorem StrAt.of{w:World}{I:Im}{el:Nat}{xs:List DW}{v:Value}{bs:List Nat}(h:ShC Tryz.prog w I (.own el .str true) xs [v] bs):
 (v=.slice none 0 0/\xs=[]/\bs=[])\/∃b cap cells,v=.slice (some ⟨b,0,none⟩) xs.length cap/\bs=[b]/\StrAt w I el xs b cap cells:=by
 rcases h with⟨e1,e2,e3⟩|⟨b,cap,cells,e1,e2,h1,h2,h3,h4,h5,_,h6⟩
 .exact .inl ⟨A5.1 e1,e2,e3⟩
 .exact .inr ⟨b,cap,cells,A5.1 e1,e2,h1,h2,h3,h4,h5 rfl,h6⟩
theorem StrAt.own{w:World}{I:Im}{el:Nat}{xs:List DW}{b cap:Nat}{cells:Array Value}(h:StrAt w I el xs b cap cells):
 ShC Tryz.prog w I (.own el .str true) xs [.slice (some ⟨b,0,none⟩) xs.length cap] [b]:=
 .inr ⟨b,cap,cells,rfl,rfl,h.len,h.row,h.sz,h.rows,λ_=>h.noC,λe=>(by cases e),h.noO⟩
theorem StrAt.io{w:World}{I:Im}{el:Nat}{xs:List DW}{b cap:Nat}{cells:Array Value}(h:StrAt w I el xs b cap cells):
 ShC Tryz.prog w I (.io el .str) xs [.slice (some ⟨b,0,none⟩) xs.length cap] [b]:=
 .inr ⟨b,cap,cells,rfl,rfl,h.len,h.row,h.sz,h.rows,λ_=>h.noC,λe=>(by cases e),h.noO⟩
theorem StrAt.all{w:World}{I:Im}{el:Nat}{xs:List DW}{b cap:Nat}{cells:Array Value}(h:StrAt w I el xs b cap cells):∀y∈xs,y.length<=281474976710656:=by
 intro y hy;obtain⟨i,hi,rfl⟩:=CY hy;exact(h.get i hi).2
def ACp:FSpec:=⟨[.io 9 .str],[],slices_Sort_string,true⟩
theorem ACq:F6 Go.Proofs.Tryz.prog 81/\FunOK Go.Proofs.Tryz.prog 81 ACp:=by
 refine⟨HV Tryz.func81 oa oa,λw I v args bs hm hsh hnd r hr=>?_⟩;obtain⟨a,rfl,ha⟩:=hsh;have ha:ShC Tryz.prog w I (.own 9 .str true) v [a] bs:=ha;have hr:r=(show List DW from v).mergeSort λx y=>decide (x<=y):=(A3 hr).symm;rcases StrAt.of ha with⟨rfl,hx,rfl⟩|⟨b,cap,cells,rfl,rfl,hs⟩
 .refine(Tryz.slices_Sort_string_none none 0 w).mono λe w' ⟨he,hw⟩=>?_;subst hw;have hx:v=([]:List DW):=hx;subst hx;have:r=([]:List DW):=hr.trans List.mergeSort_nil;subst this;exact⟨_,[],I,[],he,rfl,rfl,After.refl hm,⟨_,rfl,.inl ⟨rfl,rfl,rfl⟩⟩,B6,λb hb=>.inl hb,λ_=>AB _⟩
 .have hlen:(show List DW from r).length=(show List DW from v).length:=by rw[hr];exact List.length_mergeSort _
  refine(Tryz.slices_Sort_string b 0 cap v w hs.holds hs.row.lt (Nat.lt_of_le_of_lt hs.len.2 od)).mono λe w' ⟨he,n,os,hw⟩=>?_;rw[<-hr]at hw;obtain⟨h1,h2,h3⟩:=hs.put hm r r hlen (λi z h=>h) (λy hy=>hs.all y (by rw[hr]at hy;exact(List.mergeSort_perm _ _).mem_iff.1 hy)) hw;refine⟨_,[],I,[b],he,rfl,rfl,h1,⟨_,rfl,?_⟩,oc,λj hj=>.inl hj,λ_=>h3⟩;have h4:=h2.io;rw[hlen]at h4;exact h4
theorem ACr(xs:List DW):(Lib.compact xs).length<=xs.length:=by
 unfold Lib.compact Lib.compactUpTo;rw[B2];exact AU (BK _ _) oc
theorem ACs(xs:List DW):∀y∈Lib.compact xs,y∈xs:=by
 intro y hy;unfold Lib.compact Lib.compactUpTo at hy;obtain⟨j,hj,rfl⟩:=C2.1 hy;have hj:j<xs.length:=D5.1 (CX.1 hj).1;have:(xs.toArray)[j]! =xs[j]:=by rw[getElem!_pos _ j om];simp
 rw[this];exact BM hj
theorem ACt{α:Type}{a c:List α}(i:Nat)(z:α)(h:a[i]?=some z):(a++c)[i]?=some z:=by
 rw[AQ (A8.1 h).1,h]
theorem StrAt.cut{w:World}{I:Im}{el:Nat}{xs:List DW}{b cap:Nat}{cells:Array Value}(h:StrAt w I el xs b cap cells)(hm:GM w I)(zs:List DW)(hl:zs.length<=xs.length)(hs:∀z∈zs,z∈xs){w':World}{n:Nat}
 (hw:w'=putRow encStr (Sort.ahead w n) b 0 (zs++List.replicate (xs.length-zs.length) ([]:DW)).toArray):
 After (·∈[b]) w I w' I/\ShC Tryz.prog w' I (.own el .str true) zs [.slice (some ⟨b,0,none⟩) zs.length cap] [b]/\w.drawn<=w'.drawn:=by
 obtain⟨h1,h2,h3⟩:=h.put hm (zs++List.replicate (xs.length-zs.length) ([]:DW)) zs (by rw[A6,BU];omega) (λi z hi=>ACt i z hi) (λy hy=>h.all y (hs y hy)) (n:=n) (os:=#[]) (hw.trans (grow_empty _).symm);exact⟨h1,h2.own,h3⟩
def ACu:FSpec:=⟨[.own 9 .str true],[.own 9 .str true],slices_Compact_string,true⟩
theorem ACv:F6 Go.Proofs.Tryz.prog 82/\FunOK Go.Proofs.Tryz.prog 82 ACu:=by
 refine⟨HV Tryz.func82 oa oa,λw I v args bs hm hsh hnd r hr=>?_⟩;obtain⟨a,rfl,ha⟩:=hsh;have ha:ShC Tryz.prog w I (.own 9 .str true) v [a] bs:=ha;have hr:r=Lib.compact (show List DW from v):=(A3 hr).symm;rcases StrAt.of ha with⟨rfl,hx,rfl⟩|⟨b,cap,cells,rfl,rfl,hs⟩
 .refine(Tryz.slices_Compact_string_empty none 0 w).mono λe w' ⟨he,hw⟩=>?_;subst hw;have hx:v=([]:List DW):=hx;subst hx;have:r=([]:List DW):=by rw[hr];rfl
  subst this;exact⟨_,[_],I,[],he,rfl,rfl,After.refl hm,⟨_,rfl,.inl ⟨rfl,rfl,rfl⟩⟩,B6,λb hb=>.inl hb,λ_=>AB _⟩
 .have hn:=hs.len;refine(Tryz.slices_Compact_string b 0 cap v w hs.holds (AU hn.2 od) hn.1).mono λe w' ⟨he,n,hw⟩=>?_;rw[<-hr]at he hw;obtain⟨h1,h2,h3⟩:=hs.cut hm r (by rw[hr];exact ACr _) (by rw[hr];exact ACs _) hw;exact⟨_,[_],I,[b],he,rfl,rfl,h1,⟨_,rfl,h2⟩,oc,λj hj=>.inl hj,λ_=>h3⟩
open Go.Proofs Go.RowKit Go.Sort Go.Shelf Go.Lib
abbrev dPin:Ty:=.agg (.prod .str .str)
theorem ACw{w:World}{I:Im}{xs ys:List dPin.T}{i:Nat}(hi:i<=xs.length)(hy:ys.length=1){cells c2:List Value}{vs:List Value}(hx:RowsOK w I dPin xs cells)(hv:RowsOK w I dPin ys vs)
 (h:∀j,j<(xs.length+1)*2->c2[j]?=if j<i*2 then cells[j]? else if j<i*2+2 then vs[j-i*2]? else cells[j-2]?):
 RowsOK w I dPin (xs.take i++ys++xs.drop i) c2:=by
 have key:∀(k k':Nat) (src:List Value),(∀c,c<2→c2[k*2+c]?=src[k'*2+c]?)→(c2.drop (k*2)).take 2=(src.drop (k'*2)).take 2:=by
  intro k k' src hh;apply BV;intro c;by_cases hc:c<2
  .rw[AK,if_pos hc,AK,if_pos hc,AR,AR];exact hh c hc
  .rw[AK,if_neg hc,AK,if_neg hc]
 intro k x hk;show Rel w I dPin x ((c2.drop (k*2)).take 2)
 have hlt:k<xs.length+1:=by
  have:=(A8.1 hk).1;simp only[A6,B4,BP]at this;omega
 have hti:(xs.take i).length=i:=by rw[B4];omega
 by_cases h1:k<i
 .rw[B_,AQ o5,AK,if_pos h1]at hk;rw[key k k cells λc hc=>by rw[h _ o5,if_pos o5]];exact hx k x hk
 .by_cases h2:k=i
  .subst h2;rw[B_,AZ o5,hti,DU,AQ o5]at hk;rw[key k 0 vs λc hc=>by rw[h _ o5,if_neg o5,if_pos o5];congr 1;omega];exact hv 0 x hk
  .rw[AZ (by rw[A6];omega),A6,hti,hy,AR,show i+(k-(i+1))=k-1 by omega]at hk;rw[key k (k-1) cells λc hc=>by rw[h _ o5,if_neg o5,if_neg o5];congr 1;omega];exact hx (k-1) x hk
noncomputable def ACx:FSpec:=⟨[.nilS,.val (.int .i64)],[.own 58 dPin true],YX,true⟩
theorem ACy:F6 Go.Proofs.Tryz.prog 109/\FunOK Go.Proofs.Tryz.prog 109 ACx:=by
 refine⟨HV Tryz.func109 oa oa,λw I v args bs hm hsh hnd r hr=>?_⟩;obtain⟨u,n⟩:Unit×Int:=v;obtain⟨a,vs1,bs1,bs2,rfl,rfl,⟨rfl,ha⟩,vi,rfl,hi,rfl⟩:=hsh;obtain rfl:a=.slice none 0 0:=A5.1 ha
 obtain rfl:vi=.int .i64 n:=by
  obtain⟨c,h1,h2,_⟩:=hi;have h1:c=[vi]:=h1;exact A5.1 (h1.symm.trans h2)
 have hr:(if 0<=n/\n<=4194304 then some ([]:List dPin.T)else none)=some (show List dPin.T from r):=hr;split at hr
 case isFalse=>cases hr
 case isTrue hc=>
 obtain⟨h0,h1⟩:=hc;have hr2:([]:List dPin.T)=(show List dPin.T from r):=A3 hr;obtain⟨k,rfl⟩:∃k:Nat,n=k:=⟨n.toNat,o5⟩;rcases D0 k with rfl|hk
 .refine(ACf w).mono λe w' ⟨he,hw⟩=>?_;subst hw;exact⟨_,[_],I,[],he,rfl,rfl,After.refl hm,⟨_,rfl,.inl ⟨rfl,hr2.symm,rfl⟩⟩,B6,λb hb=>(by cases hb),λ_=>AB _⟩
 .obtain⟨hinfo,hz,hs,hb,hzc⟩:=M_;have hge:0+k<=grownCap w (0+k) 0 58:=grownCap_ge w _ _ _;have hW:=ACg k w hk o5;obtain⟨cap,hcap⟩:∃cap,cap=grownCap w (0+k) 0 58:=⟨_,rfl⟩;obtain⟨ROW,hROW⟩:∃ROW,ROW= #[]++Builtin.zeroCells zPin.cells k++Builtin.zeroCells zPin.cells (cap-(0+k)):=⟨_,rfl⟩
  have hrs:ROW.size=cap*2:=by
   rw[<-hcap]at hge;rw[hROW];simp[Builtin.zeroCells,hzc];omega
  rw[<-hcap,<-hROW]at hW;clear hROW hcap hge;refine hW.mono λe w' ⟨he,hw⟩=>?_;clear hW;have hold:∀j,j<w.heap.size->w'.heap[j]?=w.heap[j]?:=λj hj=>by rw[hw];exact(MapKept.heap_alloc w.drew _).2 j hj
  have hnew:=(MapKept.heap_alloc w.drew (.cells ROW 58)).1;rw[<-hw]at hnew;have hsz:w'.heap.size=w.heap.size+1:=by rw[hw];exact(show(w.drew.alloc (.cells ROW 58)).heap.size=w.drew.heap.size+1 by simp)
  have hq:w'.os=w.os/\w'.tape=w.tape/\w'.output=w.output/\w.drawn<=w'.drawn:=by rw[hw];exact⟨rfl,rfl,rfl,Nat.le_succ _⟩
  clear hw;have x1:Ext w I w' I:=⟨λj o h=>⟨h,by simp only[World.cell?,hold j (hm.1 j o h)]⟩,λj h=>⟨h,hold j (hm.2.1 j h)⟩⟩
  refine ⟨_,[_],I,[w.heap.size],he,rfl,rfl,⟨x1,λj hj _=>hold j hj,o5,λ_ _ h=>.inl h,λ_ h=>.inl h,λj o h=>by rw [hsz]; exact Nat.lt_succ_of_lt (hm.1 j o h),λj h=>by rw [hsz]; exact Nat.lt_succ_of_lt (hm.2.1 j h),hq.1,hq.2.1,hq.2.2.1,hm.2.2.ext x1⟩,
   ⟨_,rfl,?_⟩,oc,λj hj=>.inr (Nat.le_of_eq (AN.1 hj).symm),λ_=>hq.2.2.2⟩
  rw[show r=([]:List dPin.T)from hr2.symm];exact .inr ⟨w.heap.size,cap,ROW,rfl,rfl,⟨BQ _,BQ _⟩,⟨_,hnew,.inl (AB _)⟩,hrs,λi x hx=>by simp at hx,λ_ o h=>AH _ (hm.1 _ o h),(λh=>oe),λh=>AH _ (hm.2.1 _ h)⟩
theorem pP{w w':World}{I:Im}{bs:List Nat}{r:List dPin.T}(hm:GM w I){cap:Nat}{C:Array Value}{fz:Nat×Nat}(hold:∀j,j<w.heap.size->w'.heap[j]?=w.heap[j]?)(hnew:w'.heap[w.heap.size]?=some (.cells C 58 fz))(hfz:fz.2<=fz.1)
 (hsz:w'.heap.size=w.heap.size+1)(hq:w'.os=w.os/\w'.tape=w.tape/\w'.output=w.output)(hC:C.size=cap*2)(hl:GL r.length cap)(hrows:RowsOK w I dPin r C.toList):
 After (·∈bs) w I w' I/\ShC Tryz.prog w' I (.own 58 dPin true) r [.slice (some ⟨w.heap.size,0,none⟩) r.length cap] [w.heap.size]:=by
 have x1:Ext w I w' I:=⟨λj o h=>⟨h,by simp only[World.cell?,hold j (hm.1 j o h)]⟩,λj h=>⟨h,hold j (hm.2.1 j h)⟩⟩
 exact ⟨⟨x1,λj hj _=>hold j hj,o5,λ_ _ h=>.inl h,λ_ h=>.inl h,λj o h=>by rw [hsz]; exact Nat.lt_succ_of_lt (hm.1 j o h),λj h=>by rw [hsz]; exact Nat.lt_succ_of_lt (hm.2.1 j h),hq.1,hq.2.1,hq.2.2,hm.2.2.ext x1⟩,
  .inr ⟨w.heap.size,cap,C,rfl,rfl,hl,⟨_,hnew,.inl hfz⟩,hC,λi x hx=>(hrows i x hx).ext x1,λ_ o h=>AH _ (hm.1 _ o h),(λh=>oe),λh=>AH _ (hm.2.1 _ h)⟩⟩
theorem A1C{w w':World}{I:Im}{bs:List Nat}{r:List dPin.T}(hm:GM w I){b cap:Nat}{C:Array Value}{fz:Nat×Nat}(hb:b∈bs)(hold:∀j,j≠b→w'.heap[j]?=w.heap[j]?)(hnew:w'.heap[b]?=some (.cells C 58 fz))(hfz:fz.2≤fz.1)
 (hsz:w'.heap.size=w.heap.size)(hq:w'.os=w.os/\w'.tape=w.tape/\w'.output=w.output)(hC:C.size=cap*2)(hl:GL r.length cap)(hrows:RowsOK w I dPin r C.toList)(hI:∀o,¬I.cell b o)(hO:¬I.obj b):
 After (·∈bs) w I w' I/\ShC Tryz.prog w' I (.own 58 dPin true) r [.slice (some ⟨b,0,none⟩) r.length cap] [b]:=by
 have x1:Ext w I w' I:=⟨λj o h=>⟨h,by simp only[World.cell?,hold j (λe=>hI o (e▸h))]⟩,λj h=>⟨h,hold j (λe=>hO (e▸h))⟩⟩
 exact ⟨⟨x1,λj _ hn=>hold j (λe=>hn (e▸hb)),o5,λ_ _ h=>.inl h,λ_ h=>.inl h,λj o h=>by rw [hsz]; exact hm.1 j o h,λj h=>by rw [hsz]; exact hm.2.1 j h,hq.1,hq.2.1,hq.2.2,hm.2.2.ext x1⟩,
  .inr ⟨b,cap,C,rfl,rfl,hl,⟨_,hnew,.inl hfz⟩,hC,λi x hx=>(hrows i x hx).ext x1,λ_=>hI,(λh=>oe),hO⟩⟩
structure PinRow(w:World)(I:Im)(xs:List dPin.T)(b cap:Nat)(cells:Array Value)(fz:Nat×Nat):Prop where
 len:GL xs.length cap
 row:w.heap[b]?=some (.cells cells 58 fz)
 fz:fz.2<=fz.1
 sz:cells.size=cap*2
 rows:RowsOK w I dPin xs cells.toList
theorem PinRow.cell{w:World}{I:Im}{xs:List dPin.T}{b cap:Nat}{cells:Array Value}{fz:Nat×Nat}(h:PinRow w I xs b cap cells fz)(j:Nat):w.cell? ⟨b,j,none⟩=cells[j]?:=by
 simp[World.cell?,h.row]
theorem PinRow.frz{w:World}{I:Im}{xs:List dPin.T}{b cap:Nat}{cells:Array Value}{fz:Nat×Nat}(h:PinRow w I xs b cap cells fz)(j:Nat):w.frozen? ⟨b,j,none⟩=false:=by
 have:=h.fz;simp only[World.frozen?,h.row];simp;omega
theorem PinRow.one{w:World}{I:Im}{xs:List dPin.T}{b cap:Nat}{cells:Array Value}{fz:Nat×Nat}(h:PinRow w I xs b cap cells fz):∀v∈cells.toList.take (xs.length*2),v.oneCell'=true:=by
 intro v hv;obtain⟨t,ht,rfl⟩:=CY hv;have ht2:t<xs.length*2:=by rw[B4]at ht;omega
 have h3:=(h.rows (t / 2) _ (A0 o5)).oneCell;refine h3 _ ?_;rw[List.mem_iff_getElem?];refine⟨t % 2,?_⟩;show((cells.toList.drop (t / 2*2)).take 2)[t % 2]?=_;rw[AK,if_pos o5,AR,show t / 2*2+t % 2=t by omega,List.getElem_take,<-A0]
theorem PinRow.get{w:World}{I:Im}{xs:List dPin.T}{b cap:Nat}{cells:Array Value}{fz:Nat×Nat}(h:PinRow w I xs b cap cells fz):∀j v,(cells.toList.take (xs.length*2))[j]?=some v->w.cell? ⟨b,j,none⟩=some v:=by
 intro j v hj;rw[h.cell];rw[AK]at hj;split at hj
 .rw[<-hj];simp
 .cases hj
theorem PinRow.len2{w:World}{I:Im}{xs:List dPin.T}{b cap:Nat}{cells:Array Value}{fz:Nat×Nat}(h:PinRow w I xs b cap cells fz):(cells.toList.take (xs.length*2)).length=xs.length*2:=by
 have h1:=h.len.1;have h2:=h.sz;have h3:cells.toList.length=cells.size:=oc
 rw[B4];omega
theorem PinRow.rows2{w:World}{I:Im}{xs:List dPin.T}{b cap:Nat}{cells:Array Value}{fz:Nat×Nat}(h:PinRow w I xs b cap cells fz):RowsOK w I dPin xs (cells.toList.take (xs.length*2)):=h.rows.take (AB _)
noncomputable def ACz:FSpec:=⟨[.own 58 dPin true,.val (.int .i64),.own 58 dPin true],[.own 58 dPin true],R0,true⟩
theorem AD0:¬Pins.P.underlying 58=some (.int .u8):=by
 show ¬Tryz.prog.underlying 58=some (.int .u8);rw[Tryz.underlying58];intro h;cases h
theorem PinRow.of{w:World}{I:Im}{xs:List dPin.T}{b cap:Nat}{cells:Array Value}(hl:GL xs.length cap)(hb:RowAt w b cells 58)(hc:cells.size=cap*dPin.sz)(hr:RowsOK w I dPin xs cells.toList):∃fz,PinRow w I xs b cap cells fz:=by
 obtain⟨fz,h1,h2⟩:=hb;exact⟨fz,hl,h1,h2.resolve_right λh=>AD0 h.2,hc,hr⟩
open Go.Proofs Go.RowKit Go.Sort Go.Shelf Go.Lib
theorem dK(a:Array Value)(j:Nat):a.toList[j]?=a[j]?:=oc
theorem AD1{xs ys r:List dPin.T}{k:Nat}(hk:k<=xs.length)(h2:ys.length=1)(hr:xs.take k++ys++xs.drop k=r):r.length=xs.length+1:=by
 rw[<-hr,A6,A6,B4,BP,h2];omega
theorem AD2:F6 Go.Proofs.Tryz.prog 55/\FunOK Go.Proofs.Tryz.prog 55 ACz:=by
 refine⟨HV Tryz.func55 oa oa,λw I v args bs hm hsh hnd r hr=>?_⟩;obtain⟨xs,i,ys⟩:List dPin.T×Int×List dPin.T:=v;obtain⟨a,vs1,bs1,bs2,rfl,rfl,ha,vi,vs2,bs3,bs4,rfl,rfl,hi,vv,rfl,hv⟩:=hsh;have ha:ShC Tryz.prog w I (.own 58 dPin true) xs [a] bs1:=ha;have hv:ShC Tryz.prog w I (.own 58 dPin true) ys [vv] bs4:=hv;obtain⟨hi,rfl⟩:VRel w I (.int .i64) i vi/\bs3=[]:=hi
 obtain rfl:vi=.int .i64 i:=by
  obtain⟨c,h1,h2,_⟩:=hi;have h1:c=[vi]:=h1;exact A5.1 (h1.symm.trans h2)
 have hr:YW xs i ys=some (show List dPin.T from r):=hr;unfold YW at hr;split at hr
 case isFalse=>cases hr
 case isTrue hc=>
 obtain⟨h0,h1,h2,h3⟩:=hc;have hr2:xs.take i.toNat++ys++xs.drop i.toNat=(show List dPin.T from r):=A3 hr;clear hr;obtain⟨k,rfl⟩:∃k:Nat,i=k:=⟨i.toNat,o5⟩;rw[CQ]at hr2;have hk:k≤xs.length:=o5
 have hrl:=AD1 hk h2 hr2;rcases hv with⟨_,e2,_⟩|⟨vb,vc,vcells,e1,rfl,hvl,hvb,hvcs,hvrow,hvI,_,hvO⟩
 .have e2:ys=([]:List dPin.T):=e2;rw[e2]at h2;cases h2
 obtain rfl:vv=.slice (some ⟨vb,0,none⟩) ys.length vc:=A5.1 e1;have hvl:GL ys.length vc:=hvl;have hvrow:RowsOK w I dPin ys vcells.toList:=hvrow;clear e1 hv;obtain⟨vfz,hV⟩:=PinRow.of hvl hvb hvcs hvrow;obtain⟨vs,hvs⟩:∃vs,vs=vcells.toList.take (ys.length*2):=⟨_,rfl⟩;have v1:=hV.len2;have v2:=hV.get;have v3:=hV.one;have v4:=hV.rows2;rw[<-hvs]at v1 v2 v3 v4;rw[h2]at v1 ⊢;rcases ha with⟨e1,e2,rfl⟩|⟨b,cap,cells,e1,rfl,hl,hb,hcs,hrow,hI,_,hO⟩
 ·
  have e2:xs=([]:List dPin.T):=e2;obtain rfl:a=.slice none 0 0:=A5.1 e1;subst e2;have hk0:k=0:=by have:k<=0:=hk;omega
  subst hk0;have hr3:ys=(show List dPin.T from r):=by rw[<-hr2];simp
  refine(A1B none 0 0 vb vc [] vs w (AB _) o5 o5 (λ_ h=>oe) rfl v1 (λ_=>rfl) (λ_ h=>oe) (λj v h=>by rw[B8];exact v2 j v h) v3).mono λe w' ⟨he,hw⟩=>?_;have hge:0+1<=grownCap w (0+1) 0 58:=grownCap_ge w _ _ _;obtain⟨G,hG⟩:∃G,G=grownCap w (0+1) 0 58:=⟨_,rfl⟩;rw[<-hG]at hge he hw;obtain⟨ROW,hROW⟩:∃ROW,ROW=([]++vs).toArray++Builtin.zeroCells zPin.cells (G-(0+1)):=⟨_,rfl⟩;rw[<-hROW]at hw
  have hrs:ROW.size=G*2:=by
   rw[hROW];simp[Builtin.zeroCells,M_.2.2.2.2,v1];omega
  have hRl:ROW.toList.take 2=vs:=by rw[hROW];simp[v1]
  have hnew:=(MapKept.heap_alloc w.drew (.cells ROW 58)).1
  have hF:=pP (w':=w') (bs:=[]++([]++[vb])) (r:=(show List dPin.T from r)) (cap:=G) (C:=ROW) (fz:=(0,0)) hm (λj hj=>by rw[hw];exact(MapKept.heap_alloc w.drew _).2 j hj) (by rw[hw];exact hnew) (AB _)
   (by rw[hw];exact(show(w.drew.alloc (.cells ROW 58)).heap.size=w.drew.heap.size+1 by simp)) (by rw[hw];exact⟨rfl,rfl,rfl⟩) hrs ⟨by rw[hrl];exact hge,by rw[hrl];show 0+1<=_;omega⟩
   (by rw[<-hr3];exact RowsOK.untake (n:=2) (by rw[hRl];exact v4) (by rw[h2];exact AB _))
  rw[hrl]at hF;exact⟨_,[_],I,[w.heap.size],he,rfl,rfl,hF.1,⟨_,rfl,hF.2⟩,oc,λj hj=>.inr (Nat.le_of_eq (AN.1 hj).symm),λ_=>by rw[hw];exact Nat.le_succ _⟩
 .obtain rfl:a=.slice (some ⟨b,0,none⟩) xs.length cap:=A5.1 e1;have hl:GL xs.length cap:=hl;have hrow:RowsOK w I dPin xs cells.toList:=hrow;clear e1;obtain⟨fz,hX⟩:=PinRow.of hl hb hcs hrow
  have hne:vb≠b:=λe=>by
   subst e;exact(B7.1 hnd).1 oc
  have c1:=hX.len2;have c2:=hX.get;have c3:=hX.one;obtain⟨cs,hcsd⟩:∃cs,cs=cells.toList.take (xs.length*2):=⟨_,rfl⟩;rw[<-hcsd]at c1 c2 c3;have cget:∀j,j<xs.length*2->cs[j]?=cells[j]?:=λj hj=>by rw[hcsd,AK,if_pos hj,dK]
  have hcapm:xs.length<=cap:=hl.1;have hsz:cells.size=cap*2:=hcs;have hblt:b<w.heap.size:=(BC.1 hX.row).1
  have rows_of:∀{C:Array Value},(∀j,j<(xs.length+1)*2->C[j]?=if j<k*2 then cells[j]? else if j<k*2+2 then vs[j-k*2]? else cells[j-2]?)->RowsOK w I dPin (show List dPin.T from r) C.toList:=by
   intro C h;rw[<-hr2];refine ACw hk h2 hX.rows v4 λj hj=>?_;rw[dK C,h j hj,dK cells j,dK cells (j-2)]
  by_cases hroom:xs.length+1<=cap
  .by_cases hkn:k=xs.length
   ·
    subst hkn;refine(ACh b xs.length cap vb vc vs w hroom v1 (λj hj=>by rw[hX.cell,AY o5];rfl) (λj _=>hX.frz _) (λj v h=>by rw[B8];exact v2 j v h) v3).mono λe w' ⟨he,hw⟩=>?_;obtain⟨C,a1,a2,a3,a4⟩:=RX b vs (xs.length*2) w cells 58 fz hX.row o5;obtain⟨f1,f2,f3,f4,f5,f6⟩:=RY b vs (xs.length*2) w;rw[<-hw]at a1 f1 f2 f3 f4 f5 f6
    have hF:=A1C (w':=w') (bs:=[b]++([]++[vb])) (r:=(show List dPin.T from r)) (cap:=cap) (C:=C) (fz:=fz) hm oc f2 a1 hX.fz f1 ⟨f5,f4,f6⟩ (by rw[a2];exact hsz) ⟨by rw[hrl];exact hroom,by rw[hrl];omega⟩
     (rows_of λj hj=>by
      by_cases q1:j<xs.length*2
      .rw[if_pos q1,a4 j (.inl q1)]
      .rw[if_neg q1,if_pos o5,show j=xs.length*2+(j-xs.length*2) by omega,a3 _ o5];congr 1;omega) (hI rfl) hO
    rw[hrl]at hF;exact⟨_,[_],I,[b],he,rfl,rfl,hF.1,⟨_,rfl,hF.2⟩,oc,λj hj=>.inl (by rw[AN.1 hj];simp),λ_=>by rw[f3];exact AB _⟩
   ·
    have hkl:k<xs.length:=o5
    refine (ACi b xs.length cap k vb 1 vc cs vs w hkl o5 hroom o5 hne c1 v1 c2 (λj hj=>by rw [hX.cell,AY o5]; rfl) (λj _=>hX.frz _) v2 c3 v3 58 58 vcells.size cells.size
     (by simp[World.shape?,hV.row]) (by simp[World.shape?,hX.row]) o5 (hV.frz _) (hV.frz _)).mono λe w' ⟨he,hw⟩=>?_
    have hdl:(cs.drop (k*2)).length=(xs.length-k)*2:=by rw[BP,c1];omega
    obtain⟨C1,a1,a2,a3,a4⟩:=RX b (cs.drop (k*2)) ((k+1)*2) w.drew cells 58 fz hX.row o5;obtain⟨C,b1,b2,b3,b4⟩:=RX b vs (k*2) _ C1 58 fz a1 o5;obtain⟨f1,f2,f3,f4,f5,f6⟩:=RY b (cs.drop (k*2)) ((k+1)*2) w.drew;obtain⟨g1,g2,g3,g4,g5,g6⟩:=RY b vs (k*2) (w.drew.setCells b ((k+1)*2) (cs.drop (k*2)));rw[<-hw]at b1 g1 g2 g3 g4 g5 g6
    have hF:=A1C (w':=w') (bs:=[b]++([]++[vb])) (r:=(show List dPin.T from r)) (cap:=cap) (C:=C) (fz:=fz) hm oc (λj hj=>(g2 j hj).trans (f2 j hj)) b1 hX.fz (g1.trans f1) ⟨g5.trans f5,g4.trans f4,g6.trans f6⟩ (by rw[b2,a2];exact hsz) ⟨by rw[hrl];exact hroom,by rw[hrl];omega⟩
     (rows_of λj hj=>by
      by_cases q1:j<k*2
      .rw[if_pos q1,b4 j (.inl q1),a4 j (.inl o5)]
      .rw[if_neg q1];by_cases q2:j<k*2+2
       .rw[if_pos q2,show j=k*2+(j-k*2) by omega,b3 _ o5];congr 1;omega
       .rw[if_neg q2,b4 j (.inr o5),show j=(k+1)*2+(j-(k+1)*2) by omega,a3 _ o5,AR,cget _ o5];congr 1;omega) (hI rfl) hO
    rw[hrl]at hF;exact⟨_,[_],I,[b],he,rfl,rfl,hF.1,⟨_,rfl,hF.2⟩,oc,λj hj=>.inl (by rw[AN.1 hj];simp),λ_=>by rw[g3,f3];exact Nat.le_succ _⟩
  .by_cases hkn:k=xs.length
   ·
    subst hkn;refine(A1B (some ⟨b,0,none⟩) xs.length cap vb vc cs vs w hcapm o5 o5 (λ_ h=>by cases h;exact⟨rfl,rfl⟩) c1 v1 (λh=>oe) (λ_ h=>by cases h;intro j v hj;rw[Addr.add_lit,B8];exact c2 j v hj) (λj v h=>by rw[B8];exact v2 j v h) v3).mono λe w' ⟨he,hw⟩=>?_;have hge:xs.length+1<=grownCap w (xs.length+1) cap 58:=grownCap_ge w _ _ _;obtain⟨G,hG⟩:∃G,G=grownCap w (xs.length+1) cap 58:=⟨_,rfl⟩;rw[<-hG]at hge he hw;obtain⟨ROW,hROW⟩:∃ROW,ROW=(cs++vs).toArray++Builtin.zeroCells zPin.cells (G-(xs.length+1)):=⟨_,rfl⟩;rw[<-hROW]at hw
    have hrs:ROW.size=G*2:=by
     rw[hROW];simp[Builtin.zeroCells,M_.2.2.2.2,v1,c1];omega
    have hget:∀j,j<(xs.length+1)*2->ROW[j]?=(cs++vs)[j]?:=λj hj=>by
     rw[hROW,Array.getElem?_append_left (by simp[v1,c1];omega)];simp
    have hnew:=(MapKept.heap_alloc w.drew (.cells ROW 58)).1
    have hF:=pP (w':=w') (bs:=[b]++([]++[vb])) (r:=(show List dPin.T from r)) (cap:=G) (C:=ROW) (fz:=(0,0)) hm (λj hj=>by rw[hw];exact(MapKept.heap_alloc w.drew _).2 j hj) (by rw[hw];exact hnew) (AB _)
     (by rw[hw];exact(show(w.drew.alloc (.cells ROW 58)).heap.size=w.drew.heap.size+1 by simp)) (by rw[hw];exact⟨rfl,rfl,rfl⟩) hrs ⟨by rw[hrl];exact hge,by rw[hrl];omega⟩
     (rows_of λj hj=>by
      rw[hget j hj];by_cases q1:j<xs.length*2
      .rw[if_pos q1,AQ o5,cget j q1]
      .rw[if_neg q1,if_pos o5,AZ o5,c1])
    rw[hrl]at hF;exact⟨_,[_],I,[w.heap.size],he,rfl,rfl,hF.1,⟨_,rfl,hF.2⟩,oc,λj hj=>.inr (Nat.le_of_eq (AN.1 hj).symm),λ_=>by rw[hw];exact Nat.le_succ _⟩
   ·
    have hkl:k<xs.length:=o5
    refine(ACj b xs.length cap k vb 1 vc cs vs w hkl o5 hcapm o5 o5 c1 v1 c2 v2 c3 v3).mono λe w' ⟨he,hw⟩=>?_;have hge:xs.length+1<=grownCap w (xs.length+1) cap 58:=grownCap_ge w _ _ _;obtain⟨ROW,hROW⟩:∃ROW,ROW=P4 w cs xs.length 1 cap k:=⟨_,rfl⟩
    have hrs:ROW.size=grownCap w (xs.length+1) cap 58*2:=by
     rw[hROW];unfold P4;simp[Builtin.zeroCells,M_.2.2.2.2,c1];omega
    have hget:∀j,j<k*2->ROW[j]?=cs[j]?:=λj hj=>by
     rw[hROW];unfold P4;rw[Array.append_assoc,Array.getElem?_append_left (by simp[c1];omega)];simp[AK,hj]
    rw[<-hROW]at hw;obtain⟨G,hG⟩:∃G,G=grownCap w (xs.length+1) cap 58:=⟨_,rfl⟩;rw[<-hG]at hge he hrs;clear hROW;have hdl:(cs.drop (k*2)).length=(xs.length-k)*2:=by rw[BP,c1];omega
    have hnew:(w.alloc (.cells ROW 58)).drew.heap[w.heap.size]?=some (.cells ROW 58 (0,0)):=(MapKept.heap_alloc w (.cells ROW 58)).1;have hold0:∀j,j<w.heap.size->(w.alloc (.cells ROW 58)).drew.heap[j]?=w.heap[j]?:=λj hj=>(MapKept.heap_alloc w (.cells ROW 58)).2 j hj;have hs0:(w.alloc (.cells ROW 58)).drew.heap.size=w.heap.size+1:=(show(w.alloc (.cells ROW 58)).heap.size=w.heap.size+1 by simp);have hq0:(w.alloc (.cells ROW 58)).drew.os=w.os/\(w.alloc (.cells ROW 58)).drew.tape=w.tape/\(w.alloc (.cells ROW 58)).drew.output=w.output/\w.drawn<=(w.alloc (.cells ROW 58)).drew.drawn:=⟨rfl,rfl,rfl,Nat.le_succ _⟩;obtain⟨W0,hW0⟩:∃W0,W0=(w.alloc (.cells ROW 58)).drew:=⟨_,rfl⟩;rw[<-hW0]at hnew hold0 hs0 hq0 hw;clear hW0;obtain⟨C1,a1,a2,a3,a4⟩:=RX w.heap.size vs (k*2) W0 ROW 58 (0,0) hnew o5;obtain⟨f1,f2,f3,f4,f5,f6⟩:=RY w.heap.size vs (k*2) W0;obtain⟨C,b1,b2,b3,b4⟩:=RX w.heap.size (cs.drop (k*2)) ((k+1)*2) (W0.setCells w.heap.size (k*2) vs).drew C1 58 (0,0) a1 o5;obtain⟨g1,g2,g3,g4,g5,g6⟩:=RY w.heap.size (cs.drop (k*2)) ((k+1)*2) (W0.setCells w.heap.size (k*2) vs).drew;rw[<-hw]at b1 g1 g2 g3 g4 g5 g6
    have hF:=pP (w':=w') (bs:=[b]++([]++[vb])) (r:=(show List dPin.T from r)) (cap:=G) (C:=C) (fz:=(0,0)) hm (λj hj=>(g2 j o5).trans ((f2 j o5).trans (hold0 j hj))) b1 (AB _)
     ((g1.trans f1).trans hs0) ⟨(g5.trans f5).trans hq0.1,(g4.trans f4).trans hq0.2.1,(g6.trans f6).trans hq0.2.2.1⟩ (by rw[b2,a2];exact hrs) ⟨by rw[hrl];exact hge,by rw[hrl];omega⟩
     (rows_of λj hj=>by
      by_cases q1:j<k*2
      .rw[if_pos q1,b4 j (.inl o5),a4 j (.inl q1),hget j q1,cget j o5]
      .rw[if_neg q1];by_cases q2:j<k*2+2
       .rw[if_pos q2,b4 j (.inl o5),show j=k*2+(j-k*2) by omega,a3 _ o5];congr 1;omega
       .rw[if_neg q2,show j=(k+1)*2+(j-(k+1)*2) by omega,b3 _ o5,AR,cget _ o5];congr 1;omega)
    rw[hrl]at hF;exact⟨_,[_],I,[w.heap.size],he,rfl,rfl,hF.1,⟨_,rfl,hF.2⟩,oc,λj hj=>.inr (Nat.le_of_eq (AN.1 hj).symm),λ_=>by rw[g3];show w.drawn<=(W0.setCells w.heap.size (k*2) vs).drawn+1;rw[f3];omega⟩
end Go.Ev.Pv
namespace Go.Proofs
open Tryz
open Go.Shelf
def Tryz.sort257_ren:Go.Shelf.Ren:=⟨λ|6=>257|15=>111|14=>290|28=>144|29=>145|20=>316|21=>317|22=>318|23=>319|24=>320|25=>321|26=>322|27=>323|46=>341|47=>193|48=>194|49=>342|50=>343|57=>353|n=>n,λ|22=>203|24=>279|25=>361|3=>3|39=>185|0=>0|53=>251|55=>253|4=>4|46=>244|45=>243|50=>163|5=>5|9=>9|66=>308|70=>312|76=>348|77=>349|n=>n,λ|n=>n⟩
theorem Tryz.sort257:Go.Proofs.SlLaysF0.n6 Tryz.prog Tryz.sort257_ren:={
 mixed:=oa
 f6:=⟨Tryz.f257.name,od,fk func257⟩
 f14:=⟨Tryz.f290.name,od,fk func290⟩
 f15:=fk func111
 f20:=⟨Tryz.f316.name,od,fk func316⟩
 f21:=⟨Tryz.f317.name,od,fk func317⟩
 f22:=⟨Tryz.f318.name,od,fk func318⟩
 f23:=⟨Tryz.f319.name,od,fk func319⟩
 f24:=⟨Tryz.f320.name,od,fk func320⟩
 f25:=⟨Tryz.f321.name,od,fk func321⟩
 f26:=⟨Tryz.f322.name,od,fk func322⟩
 f27:=⟨Tryz.f323.name,od,fk func323⟩
 f28:=fk func144
 f29:=fk func145
 f46:=⟨Tryz.f341.name,od,fk func341⟩
 f47:=fk func193
 f48:=fk func194
 f49:=⟨Tryz.f342.name,od,fk func342⟩
 f50:=⟨Tryz.f343.name,od,fk func343⟩
 f57:=⟨Tryz.f353.name,od,fk func353⟩
 t0:=underlying0
 a0:=isAgg0
 z0:=sizeOf0
 v0:=zeroValue0
 t3:=underlying3
 a3:=isAgg3
 z3:=sizeOf3
 v3:=zeroValue3
 t4:=underlying4
 a4:=isAgg4
 z4:=sizeOf4
 v4:=zeroValue4
 t5:=underlying5
 a5:=isAgg5
 z5:=sizeOf5
 v5:=zeroValue5
 t9:=underlying9
 a9:=isAgg9
 z9:=sizeOf9
 v9:=zeroValue9
 t22:=underlying203
 a22:=isAgg203
 z22:=sizeOf203
 v22:=zeroValue203
 t25:=underlying361
 a25:=isAgg361
 z25:=sizeOf361
 v25:=zeroValue361
 t39:=underlying185
 a39:=isAgg185
 z39:=sizeOf185
 v39:=zeroValue185
 t45:=underlying243
 a45:=isAgg243
 z45:=sizeOf243
 v45:=zeroValue243
 t46:=underlying244
 a46:=isAgg244
 z46:=sizeOf244
 v46:=zeroValue244
 t50:=underlying163
 a50:=isAgg163
 z50:=sizeOf163
 v50:=zeroValue163
 t53:=underlying251
 a53:=isAgg251
 z53:=sizeOf251
 v53:=zeroValue251
 t55:=underlying253
 a55:=isAgg253
 z55:=sizeOf253
 v55:=zeroValue253
 t66:=underlying308
 a66:=isAgg308
 z66:=sizeOf308
 v66:=zeroValue308
 t70:=underlying312
 a70:=isAgg312
 z70:=sizeOf312
 v70:=zeroValue312
 t76:=underlying348
 a76:=isAgg348
 z76:=sizeOf348
 v76:=zeroValue348
 t77:=underlying349
 a77:=isAgg349
 z77:=sizeOf349
 v77:=zeroValue349}
end Go.Proofs
namespace Go.Ev.Pv
open Go.Proofs Go.Shelf
noncomputable def AD3:FSpec:=⟨[.io 279 (.agg (.prod (.agg (.prod (.int .i64) (.prod .str (.prod .bool .str)))) (.agg (.prod (.int .i64) (.prod .str (.prod .bool .str)))))),.hof true (.prod (.agg (.prod (.agg (.prod (.int .i64) (.prod .str (.prod .bool .str)))) (.agg (.prod (.int .i64) (.prod .str (.prod .bool .str)))))) (.agg (.prod (.agg (.prod (.int .i64) (.prod .str (.prod .bool .str)))) (.agg (.prod (.int .i64) (.prod .str (.prod .bool .str))))))) (.int .i64)],[],jQ,true⟩
theorem AD4:F6 Go.Proofs.Tryz.prog 257/\FunOK Go.Proofs.Tryz.prog 257 AD3:=
 ⟨HV Tryz.func257 oa oa,ACe Tryz.sort257 rfl Tryz.isAgg279 Tryz.sizeOf279 od⟩
end Go.Ev.Pv
