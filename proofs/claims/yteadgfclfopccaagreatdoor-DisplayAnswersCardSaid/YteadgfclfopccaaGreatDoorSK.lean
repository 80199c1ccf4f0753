/- Joined texts. -/
import Derived.Test.YteadgfclfopccaaGreatDoorAC
import Derived.Test.YteadgfclfopccaaGreatDoorProg
import Derived.Shelf.LaysM
import Derived.Shelf.Small.Strs
import Derived.Shelf.Strconv.Itoa3
import Derived.Shelf.Strings.Repeat
import Derived.Shelf.Strings.Search2
import Derived.Shelf.Strings.Trim
import Derived.Test.YteadgfclfopccaaGreatDoorSJ
set_option linter.unusedVariables false
namespace Go.Proofs.YteadgfclfopccaaGreatDoor
open Go.Shelf Go.Ab Go.RowKit
theorem same_ok {P:Program}{f:Nat}{sig:List ASh}{res:List RSh}{x:argDen sig}{y:resDen res}(u:Value)(hsto:resSto 0 res y=[])(hu:∀ (γ:Nat->G) (F:FK) (w:World),RepA γ F w (packV (resVals 0 res y)) u)
  (h:∀ (γ:Nat->G) (F:FK) (w:World) (vals:List Value),Frz F w->All2 (RepA γ F w) (argsV sig x) vals->Calls P f vals.toArray w fun e w'=>e=.returned u∧Below w.heap.size w w'):FnOk P f sig res x y:=by
 intro γ F w vals hF hvals
 refine (h γ F w vals hF hvals).mono fun e w' ⟨he,hw⟩=>?_
 refine⟨u,γ,F,he,?_,hu γ F w'⟩
 rw[hsto]
 exact⟨hw.os,hw.tape,hw.output,hw.size,fun b hb _=>hw.block b hb,fun _ _=>rfl,FK.Le.refl F,fun _ h=>.inl h,fun b h=>absurd h no_mine,fun b h=>hw.block b (hF b h),
  Inv.nil ⟨fun b h=>Nat.lt_of_lt_of_le (hF b h) hw.size,hF.gnd.mono (fun _ h=>h) (fun b h=>hw.block b (hF b h))⟩,fun _=>rfl⟩
theorem one_byte {s:ByteArray}{c:UInt8}(h:s.data.toList=[c]):s=⟨#[c]⟩:=by
 cases s with
 | mk d =>
  congr
  exact Array.ext' h
theorem same_world {P:Program}{f:Nat}{vals:Array Value}{w:World}{u:Value}(h:Calls P f vals w fun e w'=>e=.returned u∧w'=w):Calls P f vals w fun e w'=>e=.returned u∧Below w.heap.size w w' :=
 h.mono fun e w' ⟨he,hw⟩=>by subst hw;exact⟨he,Below.refl _ _⟩
theorem drew_world {P:Program}{f:Nat}{vals:Array Value}{w:World}{u:Value}(h:Calls P f vals w fun e w'=>e=.returned u∧(w'=w∨w'=w.drew)):Calls P f vals w fun e w'=>e=.returned u∧Below w.heap.size w w' :=
 h.mono fun e w' ⟨he,hw⟩=>by
  rcases hw with hw | hw
  ·subst hw;exact⟨he,Below.refl _ _⟩
  ·subst hw;exact⟨he,rfl,rfl,rfl,Nat.le_refl _,fun _ _=>rfl⟩
def lays137_ren:Go.Shelf.Ren:=⟨fun | 137=>195 | 217=>223 | 266=>250 | n=>n,fun | 9=>9 | 5=>5 | 3=>3 | n=>n,fun | n=>n⟩
theorem lays137:Go.Proofs.Lays.n137 Tryz.prog lays137_ren:={
 mixed:=by kernel_rfl
 f137:=Tryz.func195.trans (congrArg some (by kernel_rfl))
 f217:=Tryz.func223.trans (congrArg some (by kernel_rfl))
 f266:=Tryz.func250.trans (congrArg some (by kernel_rfl))
 t3:=Tryz.underlying3
 a3:=Tryz.isAgg3
 z3:=Tryz.sizeOf3
 v3:=Tryz.zeroValue3
 t5:=Tryz.underlying5
 a5:=Tryz.isAgg5
 z5:=Tryz.sizeOf5
 v5:=Tryz.zeroValue5
 t9:=Tryz.underlying9
 a9:=Tryz.isAgg9
 z9:=Tryz.sizeOf9
 v9:=Tryz.zeroValue9 }
def f1095F (k:Nat)(x:ByteArray×Int):Option Int:=some (Lib.indexByte x.1.data.toList x.2.toNat.toUInt8)
theorem f1095B:HasBody Go.Proofs.Tryz.prog 195:=⟨Go.Proofs.Tryz.f195,Go.Proofs.Tryz.func195,by kernel_rfl,by kernel_rfl⟩
theorem f1095Ok (k:Nat)(x:ByteArray×Int)(y:Int)(h:f1095F k x=some y):FnOk Go.Proofs.Tryz.prog 195 [.dat .str,.dat (.int .u8)] [.dat (.int .i64)] x y:=by
 obtain⟨s,c⟩:=x
 unfold f1095F at h
 cases h
 refine same_ok (.int .i64 (Lib.indexByte s.data.toList c.toNat.toUInt8)) rfl (fun _ _ _=>rfl) fun γ F w vals _ hvals=>?_
 match vals,hvals with
 | [a,b],⟨ha,hb,_⟩ =>
  have ha:a=.string s:=ha
  have hb:b=.int .u8 c:=hb
  subst ha hb
  exact same_world (Any.strings_IndexByte lays137 s c w)
def lays219_ren:Go.Shelf.Ren:=⟨fun | 219=>273 | 217=>223 | 225=>270 | 224=>269 | 267=>283 | 266=>250 | 314=>291 | n=>n,fun | 9=>9 | 3=>3 | 4=>4 | 5=>5 | 46=>252 | 146=>293 | 51=>292 | n=>n,fun | 1=>0 | n=>n⟩
theorem lays219:Go.Proofs.Lays.n219 Tryz.prog lays219_ren:={
 mixed:=by kernel_rfl
 f217:=Tryz.func223.trans (congrArg some (by kernel_rfl))
 f219:=Tryz.func273.trans (congrArg some (by kernel_rfl))
 f224:=Tryz.func269.trans (congrArg some (by kernel_rfl))
 f225:=Tryz.func270.trans (congrArg some (by kernel_rfl))
 f266:=Tryz.func250.trans (congrArg some (by kernel_rfl))
 f267:=Tryz.func283.trans (congrArg some (by kernel_rfl))
 f314:=Tryz.func291.trans (congrArg some (by kernel_rfl))
 t3:=Tryz.underlying3
 a3:=Tryz.isAgg3
 z3:=Tryz.sizeOf3
 v3:=Tryz.zeroValue3
 t4:=Tryz.underlying4
 a4:=Tryz.isAgg4
 z4:=Tryz.sizeOf4
 v4:=Tryz.zeroValue4
 t5:=Tryz.underlying5
 a5:=Tryz.isAgg5
 z5:=Tryz.sizeOf5
 v5:=Tryz.zeroValue5
 t9:=Tryz.underlying9
 a9:=Tryz.isAgg9
 z9:=Tryz.sizeOf9
 v9:=Tryz.zeroValue9
 t46:=Tryz.underlying252
 a46:=Tryz.isAgg252
 z46:=Tryz.sizeOf252
 v46:=Tryz.zeroValue252
 t51:=Tryz.underlying292
 a51:=Tryz.isAgg292
 z51:=Tryz.sizeOf292
 v51:=Tryz.zeroValue292
 t146:=Tryz.underlying293
 a146:=Tryz.isAgg293
 z146:=Tryz.sizeOf293
 v146:=Tryz.zeroValue293
 g1:=by kernel_rfl }
def f261F (k:Nat)(x:ByteArray×ByteArray):Option Int :=
 match x.2.data.toList with
 | [c]=>some (Lib.indexByte x.1.data.toList c)
 | _=>none
theorem f261B:HasBody Go.Proofs.Tryz.prog 273:=⟨Go.Proofs.Tryz.f273,Go.Proofs.Tryz.func273,by kernel_rfl,by kernel_rfl⟩
theorem f261Ok (k:Nat)(x:ByteArray×ByteArray)(y:Int)(h:f261F k x=some y):FnOk Go.Proofs.Tryz.prog 273 [.dat .str,.dat .str] [.dat (.int .i64)] x y:=by
 obtain⟨s,t⟩:=x
 unfold f261F at h
 simp only[] at h
 split at h
 ·rename_i c hc
  have ht:=one_byte hc
  subst ht
  cases h
  refine same_ok (.int .i64 (Lib.indexByte s.data.toList c)) rfl (fun _ _ _=>rfl) fun γ F w vals _ hvals=>?_
  match vals,hvals with
  | [a,b],⟨ha,hb,_⟩ =>
   have ha:a=.string s:=ha
   have hb:b=.string ⟨#[c]⟩:=hb
   subst ha hb
   exact same_world (Any.stringslite_Index_one lays219 s c w)
 ·cases h
def lays161_ren:Go.Shelf.Ren:=⟨fun | 161=>229 | 231=>224 | 227=>171 | 233=>225 | 235=>226 | 228=>209 | 197=>245 | 151=>211 | 260=>267 | 152=>246 | 137=>195 | 119=>268 | 224=>269 | 225=>270 | 217=>223 | 266=>250 | n=>n,fun | 9=>9 | 4=>4 | 3=>3 | 5=>5 | 117=>248 | 116=>247 | 0=>0 | 124=>251 | 105=>289 | 21=>21 | 119=>352 | 46=>252 | 139=>355 | 138=>354 | n=>n,fun | 3=>1 | 4=>2 | n=>n⟩
theorem lays161:Go.Proofs.Lays.n161 Tryz.prog lays161_ren:={
 mixed:=by kernel_rfl
 f119:=Tryz.func268.trans (congrArg some (by kernel_rfl))
 f137:=Tryz.func195.trans (congrArg some (by kernel_rfl))
 f151:=Tryz.func211.trans (congrArg some (by kernel_rfl))
 f152:=Tryz.func246.trans (congrArg some (by kernel_rfl))
 f161:=Tryz.func229.trans (congrArg some (by kernel_rfl))
 f197:=Tryz.func245.trans (congrArg some (by kernel_rfl))
 f217:=Tryz.func223.trans (congrArg some (by kernel_rfl))
 f224:=Tryz.func269.trans (congrArg some (by kernel_rfl))
 f225:=Tryz.func270.trans (congrArg some (by kernel_rfl))
 f227:=Tryz.func171.trans (congrArg some (by kernel_rfl))
 f228:=Tryz.func209.trans (congrArg some (by kernel_rfl))
 f231:=Tryz.func224.trans (congrArg some (by kernel_rfl))
 f233:=Tryz.func225.trans (congrArg some (by kernel_rfl))
 f235:=Tryz.func226.trans (congrArg some (by kernel_rfl))
 f260:=Tryz.func267.trans (congrArg some (by kernel_rfl))
 f266:=Tryz.func250.trans (congrArg some (by kernel_rfl))
 t0:=Tryz.underlying0
 a0:=Tryz.isAgg0
 z0:=Tryz.sizeOf0
 v0:=Tryz.zeroValue0
 t3:=Tryz.underlying3
 a3:=Tryz.isAgg3
 z3:=Tryz.sizeOf3
 v3:=Tryz.zeroValue3
 t4:=Tryz.underlying4
 a4:=Tryz.isAgg4
 z4:=Tryz.sizeOf4
 v4:=Tryz.zeroValue4
 t5:=Tryz.underlying5
 a5:=Tryz.isAgg5
 z5:=Tryz.sizeOf5
 v5:=Tryz.zeroValue5
 t9:=Tryz.underlying9
 a9:=Tryz.isAgg9
 z9:=Tryz.sizeOf9
 v9:=Tryz.zeroValue9
 t21:=Tryz.underlying21
 a21:=Tryz.isAgg21
 z21:=Tryz.sizeOf21
 v21:=Tryz.zeroValue21
 t46:=Tryz.underlying252
 a46:=Tryz.isAgg252
 z46:=Tryz.sizeOf252
 v46:=Tryz.zeroValue252
 t105:=Tryz.underlying289
 a105:=Tryz.isAgg289
 z105:=Tryz.sizeOf289
 v105:=Tryz.zeroValue289
 t116:=Tryz.underlying247
 a116:=Tryz.isAgg247
 z116:=Tryz.sizeOf247
 t117:=Tryz.underlying248
 a117:=Tryz.isAgg248
 z117:=Tryz.sizeOf248
 v117:=Tryz.zeroValue248
 t119:=Tryz.underlying352
 a119:=Tryz.isAgg352
 z119:=Tryz.sizeOf352
 t124:=Tryz.underlying251
 a124:=Tryz.isAgg251
 z124:=Tryz.sizeOf251
 v124:=Tryz.zeroValue251
 t138:=Tryz.underlying354
 a138:=Tryz.isAgg354
 z138:=Tryz.sizeOf354
 v138:=Tryz.zeroValue354
 t139:=Tryz.underlying355
 a139:=Tryz.isAgg355
 z139:=Tryz.sizeOf355
 v139:=Tryz.zeroValue355
 g3:=by kernel_rfl
 g4:=by kernel_rfl }
def f223F (k:Nat)(x:ByteArray×ByteArray):Option ByteArray :=
 match x.2.data.toList with
 | [c]=>bif decide (c.toNat<128) then some ⟨(Lib.trimLeftB x.1.data.toList c).toArray⟩ else none
 | _=>none
theorem f223B:HasBody Go.Proofs.Tryz.prog 229:=⟨Go.Proofs.Tryz.f229,Go.Proofs.Tryz.func229,by kernel_rfl,by kernel_rfl⟩
theorem f223Ok (k:Nat)(x:ByteArray×ByteArray)(y:ByteArray)(h:f223F k x=some y):FnOk Go.Proofs.Tryz.prog 229 [.dat .str,.dat .str] [.dat .str] x y:=by
 obtain⟨s,t⟩:=x
 unfold f223F at h
 simp only[] at h
 split at h
 ·rename_i c hc
  have ht:=one_byte hc
  subst ht
  by_cases hlt:c.toNat<128
  ·rw[decide_eq_true hlt] at h
   cases h
   refine same_ok (.string ⟨(Lib.trimLeftB s.data.toList c).toArray⟩) rfl (fun _ _ _=>rfl) fun γ F w vals _ hvals=>?_
   match vals,hvals with
   | [a,b],⟨ha,hb,_⟩ =>
    have ha:a=.string s:=ha
    have hb:b=.string ⟨#[c]⟩:=hb
    subst ha hb
    exact same_world (Any.strings_TrimLeft_one lays161 s c hlt w)
  ·rw[decide_eq_false hlt] at h
   cases h
 ·cases h
def lays162_ren:Go.Shelf.Ren:=⟨fun | 162=>116 | 232=>170 | 227=>171 | 234=>172 | 236=>173 | 228=>209 | 271=>210 | 151=>211 | 120=>244 | 197=>245 | 152=>246 | 260=>267 | 137=>195 | 119=>268 | 224=>269 | 225=>270 | 217=>223 | 266=>250 | n=>n,fun | 9=>9 | 4=>4 | 3=>3 | 5=>5 | 117=>248 | 116=>247 | 0=>0 | 124=>251 | 21=>21 | 105=>289 | 46=>252 | 119=>352 | 139=>355 | 138=>354 | n=>n,fun | 3=>1 | 4=>2 | n=>n⟩
theorem lays162:Go.Proofs.Lays.n162 Tryz.prog lays162_ren:={
 mixed:=by kernel_rfl
 f119:=Tryz.func268.trans (congrArg some (by kernel_rfl))
 f120:=Tryz.func244.trans (congrArg some (by kernel_rfl))
 f137:=Tryz.func195.trans (congrArg some (by kernel_rfl))
 f151:=Tryz.func211.trans (congrArg some (by kernel_rfl))
 f152:=Tryz.func246.trans (congrArg some (by kernel_rfl))
 f162:=Tryz.func116.trans (congrArg some (by kernel_rfl))
 f197:=Tryz.func245.trans (congrArg some (by kernel_rfl))
 f217:=Tryz.func223.trans (congrArg some (by kernel_rfl))
 f224:=Tryz.func269.trans (congrArg some (by kernel_rfl))
 f225:=Tryz.func270.trans (congrArg some (by kernel_rfl))
 f227:=Tryz.func171.trans (congrArg some (by kernel_rfl))
 f228:=Tryz.func209.trans (congrArg some (by kernel_rfl))
 f232:=Tryz.func170.trans (congrArg some (by kernel_rfl))
 f234:=Tryz.func172.trans (congrArg some (by kernel_rfl))
 f236:=Tryz.func173.trans (congrArg some (by kernel_rfl))
 f260:=Tryz.func267.trans (congrArg some (by kernel_rfl))
 f266:=Tryz.func250.trans (congrArg some (by kernel_rfl))
 f271:=Tryz.func210.trans (congrArg some (by kernel_rfl))
 t0:=Tryz.underlying0
 a0:=Tryz.isAgg0
 z0:=Tryz.sizeOf0
 v0:=Tryz.zeroValue0
 t3:=Tryz.underlying3
 a3:=Tryz.isAgg3
 z3:=Tryz.sizeOf3
 v3:=Tryz.zeroValue3
 t4:=Tryz.underlying4
 a4:=Tryz.isAgg4
 z4:=Tryz.sizeOf4
 v4:=Tryz.zeroValue4
 t5:=Tryz.underlying5
 a5:=Tryz.isAgg5
 z5:=Tryz.sizeOf5
 v5:=Tryz.zeroValue5
 t9:=Tryz.underlying9
 a9:=Tryz.isAgg9
 z9:=Tryz.sizeOf9
 v9:=Tryz.zeroValue9
 t21:=Tryz.underlying21
 a21:=Tryz.isAgg21
 z21:=Tryz.sizeOf21
 v21:=Tryz.zeroValue21
 t46:=Tryz.underlying252
 a46:=Tryz.isAgg252
 z46:=Tryz.sizeOf252
 v46:=Tryz.zeroValue252
 t105:=Tryz.underlying289
 a105:=Tryz.isAgg289
 z105:=Tryz.sizeOf289
 v105:=Tryz.zeroValue289
 t116:=Tryz.underlying247
 a116:=Tryz.isAgg247
 z116:=Tryz.sizeOf247
 t117:=Tryz.underlying248
 a117:=Tryz.isAgg248
 z117:=Tryz.sizeOf248
 v117:=Tryz.zeroValue248
 t119:=Tryz.underlying352
 a119:=Tryz.isAgg352
 z119:=Tryz.sizeOf352
 t124:=Tryz.underlying251
 a124:=Tryz.isAgg251
 z124:=Tryz.sizeOf251
 v124:=Tryz.zeroValue251
 t138:=Tryz.underlying354
 a138:=Tryz.isAgg354
 z138:=Tryz.sizeOf354
 v138:=Tryz.zeroValue354
 t139:=Tryz.underlying355
 a139:=Tryz.isAgg355
 z139:=Tryz.sizeOf355
 v139:=Tryz.zeroValue355
 g3:=by kernel_rfl
 g4:=by kernel_rfl }
def f1016F (k:Nat)(x:ByteArray×ByteArray):Option ByteArray :=
 match x.2.data.toList with
 | [c]=>bif (decide (c.toNat<128)&&decide (x.1.size<=9223372036854775807)) then some ⟨(Lib.trimRightB x.1.data.toList c).toArray⟩ else none
 | _=>none
theorem f1016B:HasBody Go.Proofs.Tryz.prog 116:=⟨Go.Proofs.Tryz.f116,Go.Proofs.Tryz.func116,by kernel_rfl,by kernel_rfl⟩
theorem f1016Ok (k:Nat)(x:ByteArray×ByteArray)(y:ByteArray)(h:f1016F k x=some y):FnOk Go.Proofs.Tryz.prog 116 [.dat .str,.dat .str] [.dat .str] x y:=by
 obtain⟨s,t⟩:=x
 unfold f1016F at h
 simp only[] at h
 split at h
 ·rename_i c hc
  have ht:=one_byte hc
  subst ht
  cases hcc:(decide (c.toNat<128)&&decide (s.size<=9223372036854775807)) with
  | false=>rw[hcc] at h;cases h
  | true =>
   rw[hcc] at h
   cases h
   simp only[Bool.and_eq_true,decide_eq_true_eq] at hcc
   obtain⟨hlt,hs⟩:=hcc
   refine same_ok (.string ⟨(Lib.trimRightB s.data.toList c).toArray⟩) rfl (fun _ _ _=>rfl) fun γ F w vals _ hvals=>?_
   match vals,hvals with
   | [a,b],⟨ha,hb,_⟩ =>
    have ha:a=.string s:=ha
    have hb:b=.string ⟨#[c]⟩:=hb
    subst ha hb
    exact same_world (Any.strings_TrimRight_one lays162 s c hlt w hs)
 ·cases h
def lays160_ren:Go.Shelf.Ren:=⟨fun | 160=>196 | 232=>170 | 231=>224 | 227=>171 | 234=>172 | 233=>225 | 236=>173 | 235=>226 | 228=>209 | 271=>210 | 151=>211 | 197=>245 | 120=>244 | 152=>246 | 260=>267 | 137=>195 | 119=>268 | 224=>269 | 225=>270 | 217=>223 | 266=>250 | n=>n,fun | 9=>9 | 4=>4 | 3=>3 | 5=>5 | 117=>248 | 116=>247 | 0=>0 | 124=>251 | 21=>21 | 105=>289 | 46=>252 | 119=>352 | 139=>355 | 138=>354 | n=>n,fun | 3=>1 | 4=>2 | n=>n⟩
theorem lays160:Go.Proofs.Lays.n160 Tryz.prog lays160_ren:={
 mixed:=by kernel_rfl
 f119:=Tryz.func268.trans (congrArg some (by kernel_rfl))
 f120:=Tryz.func244.trans (congrArg some (by kernel_rfl))
 f137:=Tryz.func195.trans (congrArg some (by kernel_rfl))
 f151:=Tryz.func211.trans (congrArg some (by kernel_rfl))
 f152:=Tryz.func246.trans (congrArg some (by kernel_rfl))
 f160:=Tryz.func196.trans (congrArg some (by kernel_rfl))
 f197:=Tryz.func245.trans (congrArg some (by kernel_rfl))
 f217:=Tryz.func223.trans (congrArg some (by kernel_rfl))
 f224:=Tryz.func269.trans (congrArg some (by kernel_rfl))
 f225:=Tryz.func270.trans (congrArg some (by kernel_rfl))
 f227:=Tryz.func171.trans (congrArg some (by kernel_rfl))
 f228:=Tryz.func209.trans (congrArg some (by kernel_rfl))
 f231:=Tryz.func224.trans (congrArg some (by kernel_rfl))
 f232:=Tryz.func170.trans (congrArg some (by kernel_rfl))
 f233:=Tryz.func225.trans (congrArg some (by kernel_rfl))
 f234:=Tryz.func172.trans (congrArg some (by kernel_rfl))
 f235:=Tryz.func226.trans (congrArg some (by kernel_rfl))
 f236:=Tryz.func173.trans (congrArg some (by kernel_rfl))
 f260:=Tryz.func267.trans (congrArg some (by kernel_rfl))
 f266:=Tryz.func250.trans (congrArg some (by kernel_rfl))
 f271:=Tryz.func210.trans (congrArg some (by kernel_rfl))
 t0:=Tryz.underlying0
 a0:=Tryz.isAgg0
 z0:=Tryz.sizeOf0
 v0:=Tryz.zeroValue0
 t3:=Tryz.underlying3
 a3:=Tryz.isAgg3
 z3:=Tryz.sizeOf3
 v3:=Tryz.zeroValue3
 t4:=Tryz.underlying4
 a4:=Tryz.isAgg4
 z4:=Tryz.sizeOf4
 v4:=Tryz.zeroValue4
 t5:=Tryz.underlying5
 a5:=Tryz.isAgg5
 z5:=Tryz.sizeOf5
 v5:=Tryz.zeroValue5
 t9:=Tryz.underlying9
 a9:=Tryz.isAgg9
 z9:=Tryz.sizeOf9
 v9:=Tryz.zeroValue9
 t21:=Tryz.underlying21
 a21:=Tryz.isAgg21
 z21:=Tryz.sizeOf21
 v21:=Tryz.zeroValue21
 t46:=Tryz.underlying252
 a46:=Tryz.isAgg252
 z46:=Tryz.sizeOf252
 v46:=Tryz.zeroValue252
 t105:=Tryz.underlying289
 a105:=Tryz.isAgg289
 z105:=Tryz.sizeOf289
 v105:=Tryz.zeroValue289
 t116:=Tryz.underlying247
 a116:=Tryz.isAgg247
 z116:=Tryz.sizeOf247
 t117:=Tryz.underlying248
 a117:=Tryz.isAgg248
 z117:=Tryz.sizeOf248
 v117:=Tryz.zeroValue248
 t119:=Tryz.underlying352
 a119:=Tryz.isAgg352
 z119:=Tryz.sizeOf352
 t124:=Tryz.underlying251
 a124:=Tryz.isAgg251
 z124:=Tryz.sizeOf251
 v124:=Tryz.zeroValue251
 t138:=Tryz.underlying354
 a138:=Tryz.isAgg354
 z138:=Tryz.sizeOf354
 v138:=Tryz.zeroValue354
 t139:=Tryz.underlying355
 a139:=Tryz.isAgg355
 z139:=Tryz.sizeOf355
 v139:=Tryz.zeroValue355
 g3:=by kernel_rfl
 g4:=by kernel_rfl }
def f1096F (k:Nat)(x:ByteArray×ByteArray):Option ByteArray :=
 match x.2.data.toList with
 | [c]=>bif (decide (c.toNat<128)&&decide (x.1.size<=9223372036854775807)) then some ⟨(Lib.trimB x.1.data.toList c).toArray⟩ else none
 | _=>none
theorem f1096B:HasBody Go.Proofs.Tryz.prog 196:=⟨Go.Proofs.Tryz.f196,Go.Proofs.Tryz.func196,by kernel_rfl,by kernel_rfl⟩
theorem f1096Ok (k:Nat)(x:ByteArray×ByteArray)(y:ByteArray)(h:f1096F k x=some y):FnOk Go.Proofs.Tryz.prog 196 [.dat .str,.dat .str] [.dat .str] x y:=by
 obtain⟨s,t⟩:=x
 unfold f1096F at h
 simp only[] at h
 split at h
 ·rename_i c hc
  have ht:=one_byte hc
  subst ht
  cases hcc:(decide (c.toNat<128)&&decide (s.size<=9223372036854775807)) with
  | false=>rw[hcc] at h;cases h
  | true =>
   rw[hcc] at h
   cases h
   simp only[Bool.and_eq_true,decide_eq_true_eq] at hcc
   obtain⟨hlt,hs⟩:=hcc
   refine same_ok (.string ⟨(Lib.trimB s.data.toList c).toArray⟩) rfl (fun _ _ _=>rfl) fun γ F w vals _ hvals=>?_
   match vals,hvals with
   | [a,b],⟨ha,hb,_⟩ =>
    have ha:a=.string s:=ha
    have hb:b=.string ⟨#[c]⟩:=hb
    subst ha hb
    exact drew_world (Any.strings_Trim_one lays160 s c hlt w hs)
 ·cases h
def lays105_ren:Go.Shelf.Ren:=⟨fun | 105=>122 | 212=>175 | 99=>176 | 165=>177 | 166=>178 | 170=>179 | 169=>180 | 263=>213 | 264=>214 | 206=>215 | 240=>216 | 241=>217 | 276=>247 | 277=>248 | n=>n,fun | 9=>9 | 3=>3 | 4=>4 | 20=>20 | 0=>0 | 46=>252 | 109=>253 | 5=>5 | 72=>258 | 76=>262 | 51=>292 | 146=>293 | 53=>295 | 148=>296 | 70=>256 | 37=>139 | 75=>261 | 127=>298 | 164=>327 | 80=>265 | n=>n,fun | n=>n⟩
theorem lays105:Go.Proofs.Lays.n105 Tryz.prog lays105_ren:={
 mixed:=by kernel_rfl
 f99:=Tryz.func176.trans (congrArg some (by kernel_rfl))
 f105:=Tryz.func122.trans (congrArg some (by kernel_rfl))
 f165:=Tryz.func177.trans (congrArg some (by kernel_rfl))
 f166:=Tryz.func178.trans (congrArg some (by kernel_rfl))
 f169:=Tryz.func180.trans (congrArg some (by kernel_rfl))
 f170:=Tryz.func179.trans (congrArg some (by kernel_rfl))
 f206:=Tryz.func215.trans (congrArg some (by kernel_rfl))
 f212:=Tryz.func175.trans (congrArg some (by kernel_rfl))
 f240:=Tryz.func216.trans (congrArg some (by kernel_rfl))
 f241:=Tryz.func217.trans (congrArg some (by kernel_rfl))
 f263:=Tryz.func213.trans (congrArg some (by kernel_rfl))
 f264:=Tryz.func214.trans (congrArg some (by kernel_rfl))
 f276:=Tryz.func247.trans (congrArg some (by kernel_rfl))
 f277:=Tryz.func248.trans (congrArg some (by kernel_rfl))
 t0:=Tryz.underlying0
 a0:=Tryz.isAgg0
 z0:=Tryz.sizeOf0
 v0:=Tryz.zeroValue0
 t3:=Tryz.underlying3
 a3:=Tryz.isAgg3
 z3:=Tryz.sizeOf3
 v3:=Tryz.zeroValue3
 t4:=Tryz.underlying4
 a4:=Tryz.isAgg4
 z4:=Tryz.sizeOf4
 v4:=Tryz.zeroValue4
 t5:=Tryz.underlying5
 a5:=Tryz.isAgg5
 z5:=Tryz.sizeOf5
 v5:=Tryz.zeroValue5
 t9:=Tryz.underlying9
 a9:=Tryz.isAgg9
 z9:=Tryz.sizeOf9
 v9:=Tryz.zeroValue9
 t20:=Tryz.underlying20
 a20:=Tryz.isAgg20
 z20:=Tryz.sizeOf20
 v20:=Tryz.zeroValue20
 t37:=Tryz.underlying139
 a37:=Tryz.isAgg139
 z37:=Tryz.sizeOf139
 v37:=Tryz.zeroValue139
 t46:=Tryz.underlying252
 a46:=Tryz.isAgg252
 z46:=Tryz.sizeOf252
 v46:=Tryz.zeroValue252
 t51:=Tryz.underlying292
 a51:=Tryz.isAgg292
 z51:=Tryz.sizeOf292
 v51:=Tryz.zeroValue292
 t53:=Tryz.underlying295
 a53:=Tryz.isAgg295
 z53:=Tryz.sizeOf295
 v53:=Tryz.zeroValue295
 t70:=Tryz.underlying256
 a70:=Tryz.isAgg256
 z70:=Tryz.sizeOf256
 v70:=Tryz.zeroValue256
 t72:=Tryz.underlying258
 a72:=Tryz.isAgg258
 z72:=Tryz.sizeOf258
 v72:=Tryz.zeroValue258
 t75:=Tryz.underlying261
 a75:=Tryz.isAgg261
 z75:=Tryz.sizeOf261
 v75:=Tryz.zeroValue261
 t76:=Tryz.underlying262
 a76:=Tryz.isAgg262
 z76:=Tryz.sizeOf262
 v76:=Tryz.zeroValue262
 t109:=Tryz.underlying253
 a109:=Tryz.isAgg253
 z109:=Tryz.sizeOf253
 v109:=Tryz.zeroValue253
 t127:=Tryz.underlying298
 a127:=Tryz.isAgg298
 z127:=Tryz.sizeOf298
 v127:=Tryz.zeroValue298
 t146:=Tryz.underlying293
 a146:=Tryz.isAgg293
 z146:=Tryz.sizeOf293
 v146:=Tryz.zeroValue293
 t148:=Tryz.underlying296
 a148:=Tryz.isAgg296
 z148:=Tryz.sizeOf296
 v148:=Tryz.zeroValue296
 t164:=Tryz.underlying327
 a164:=Tryz.isAgg327
 z164:=Tryz.sizeOf327
 v164:=Tryz.zeroValue327 }
theorem extra105:Builder.Extra Tryz.prog lays105_ren:={
 sizeBuilder:=by kernel_rfl
 liesBuilder:=by kernel_rfl
 t5:=Tryz.underlying5
 a5:=Tryz.isAgg5
 z5:=Tryz.sizeOf5
 v5:=Tryz.zeroValue5
 infoByte:=by kernel_rfl
 cellsByte:=by kernel_rfl
 sizeByte:=by kernel_rfl
 neB5:=by decide }
def f73F (k:Nat)(x:ByteArray×Int):Option ByteArray :=
 bif decide (0<=x.2)&&(decide (x.2<=9223372036854775807)&&decide ((x.1.size:Int)*x.2<=140737488355328)) then some ⟨(Lib.repeatL x.1.data.toList x.2.toNat).toArray⟩ else none
theorem f73B:HasBody Go.Proofs.Tryz.prog 122:=⟨Go.Proofs.Tryz.f122,Go.Proofs.Tryz.func122,by kernel_rfl,by kernel_rfl⟩
theorem f73Ok (k:Nat)(x:ByteArray×Int)(y:ByteArray)(h:f73F k x=some y):FnOk Go.Proofs.Tryz.prog 122 [.dat .str,.dat (.int .i64)] [.dat .str] x y:=by
 obtain⟨s,c⟩:=x
 unfold f73F at h
 cases hc:(decide (0<=c)&&(decide (c<=9223372036854775807)&&decide ((s.size:Int)*c<=140737488355328))) with
 | false=>rw[hc] at h;cases h
 | true =>
  rw[hc] at h
  simp only[Bool.and_eq_true,decide_eq_true_eq] at hc
  obtain⟨c0,c1,c2⟩:=hc
  obtain⟨C,rfl⟩:∃ C:Nat,c=C:=⟨c.toNat,by omega⟩
  have hy:y=⟨(Lib.repeatL s.data.toList C).toArray⟩:=by
   simp only[cond_true,Int.toNat_natCast] at h
   exact (Option.some.inj h).symm
  subst hy
  have hlen:s.size*C<=140737488355328:=by
   have e:(s.size:Int)*(C:Int)=((s.size*C:Nat):Int):=by simp
   omega
  refine same_ok (.string ⟨(Lib.repeatL s.data.toList C).toArray⟩) rfl (fun _ _ _=>rfl) fun γ F w vals _ hvals=>?_
  match vals,hvals with
  | [a,b],⟨ha,hb,_⟩ =>
   have ha:a=.string s:=ha
   have hb:b=.int .i64 (C:Int):=hb
   subst ha hb
   exact Any.strings_Repeat lays105 extra105 s C w (by omega) hlen
def laysM171_ren:Go.Shelf.Ren:=⟨fun | 171=>249 | 243=>271 | 246=>282 | 283=>287 | 284=>288 | 285=>289 | 286=>290 | 129=>293 | 317=>292 | 318=>294 | 319=>295 | 320=>296 | 337=>297 | 338=>298 | n=>n,fun | 3=>3 | 9=>9 | 2=>2 | 4=>4 | 171=>358 | 0=>0 | 53=>295 | 37=>139 | 5=>5 | 173=>361 | 212=>364 | 51=>292 | 20=>20 | 213=>365 | 46=>252 | 232=>368 | 233=>369 | n=>n,fun | 17=>3 | 18=>4 | 19=>5 | n=>n⟩
theorem laysM171:Go.Proofs.LaysM.n171 Tryz.prog laysM171_ren:={
 mixed:=by kernel_rfl
 f129:=Tryz.func293.trans (congrArg some (by kernel_rfl))
 f171:=Tryz.func249.trans (congrArg some (by kernel_rfl))
 f243:=Tryz.func271.trans (congrArg some (by kernel_rfl))
 f246:=Tryz.func282.trans (congrArg some (by kernel_rfl))
 f283:=Tryz.func287.trans (congrArg some (by kernel_rfl))
 f284:=Tryz.func288.trans (congrArg some (by kernel_rfl))
 f285:=Tryz.func289.trans (congrArg some (by kernel_rfl))
 f286:=Tryz.func290.trans (congrArg some (by kernel_rfl))
 f317:=Tryz.func292.trans (congrArg some (by kernel_rfl))
 f318:=Tryz.func294.trans (congrArg some (by kernel_rfl))
 f319:=Tryz.func295.trans (congrArg some (by kernel_rfl))
 f320:=Tryz.func296.trans (congrArg some (by kernel_rfl))
 f337:=Tryz.func297.trans (congrArg some (by kernel_rfl))
 f338:=Tryz.func298.trans (congrArg some (by kernel_rfl))
 t0:=Tryz.underlying0
 a0:=Tryz.isAgg0
 z0:=Tryz.sizeOf0
 v0:=Tryz.zeroValue0
 t2:=Tryz.underlying2
 a2:=Tryz.isAgg2
 z2:=Tryz.sizeOf2
 v2:=Tryz.zeroValue2
 t3:=Tryz.underlying3
 a3:=Tryz.isAgg3
 z3:=Tryz.sizeOf3
 v3:=Tryz.zeroValue3
 t4:=Tryz.underlying4
 a4:=Tryz.isAgg4
 z4:=Tryz.sizeOf4
 v4:=Tryz.zeroValue4
 t5:=Tryz.underlying5
 a5:=Tryz.isAgg5
 z5:=Tryz.sizeOf5
 v5:=Tryz.zeroValue5
 t9:=Tryz.underlying9
 a9:=Tryz.isAgg9
 z9:=Tryz.sizeOf9
 v9:=Tryz.zeroValue9
 t20:=Tryz.underlying20
 a20:=Tryz.isAgg20
 z20:=Tryz.sizeOf20
 v20:=Tryz.zeroValue20
 t37:=Tryz.underlying139
 a37:=Tryz.isAgg139
 z37:=Tryz.sizeOf139
 v37:=Tryz.zeroValue139
 t46:=Tryz.underlying252
 a46:=Tryz.isAgg252
 z46:=Tryz.sizeOf252
 v46:=Tryz.zeroValue252
 t51:=Tryz.underlying292
 a51:=Tryz.isAgg292
 z51:=Tryz.sizeOf292
 v51:=Tryz.zeroValue292
 t53:=Tryz.underlying295
 a53:=Tryz.isAgg295
 z53:=Tryz.sizeOf295
 v53:=Tryz.zeroValue295
 t171:=Tryz.underlying358
 a171:=Tryz.isAgg358
 z171:=Tryz.sizeOf358
 v171:=Tryz.zeroValue358
 t173:=Tryz.underlying361
 a173:=Tryz.isAgg361
 z173:=Tryz.sizeOf361
 v173:=Tryz.zeroValue361
 t212:=Tryz.underlying364
 a212:=Tryz.isAgg364
 z212:=Tryz.sizeOf364
 v212:=Tryz.zeroValue364
 t213:=Tryz.underlying365
 a213:=Tryz.isAgg365
 z213:=Tryz.sizeOf365
 t232:=Tryz.underlying368
 a232:=Tryz.isAgg368
 z232:=Tryz.sizeOf368
 v232:=Tryz.zeroValue368
 t233:=Tryz.underlying369
 a233:=Tryz.isAgg369
 z233:=Tryz.sizeOf369
 v233:=Tryz.zeroValue369
 g17:=by kernel_rfl
 g18:=by kernel_rfl
 g19:=by kernel_rfl
 i0:=by kernel_rfl
 i2:=by kernel_rfl
 i3:=by kernel_rfl
 i4:=by kernel_rfl
 i5:=by kernel_rfl
 i9:=by kernel_rfl
 i20:=by kernel_rfl
 i37:=by kernel_rfl
 i46:=by kernel_rfl
 i51:=by kernel_rfl
 i53:=by kernel_rfl
 i171:=by kernel_rfl
 i173:=by kernel_rfl
 i212:=by kernel_rfl
 i232:=by kernel_rfl
 i233:=by kernel_rfl
 m17:=by kernel_rfl
 m18:=by kernel_rfl
 m19:=by kernel_rfl }
def f228F (k:Nat)(x:Int):Option ByteArray :=
 bif decide (-9223372036854775808<=x)&&decide (x<=9223372036854775807) then some ⟨(Lib.itoa x).toArray⟩ else none
theorem f228B:HasBody Go.Proofs.Tryz.prog 249:=⟨Go.Proofs.Tryz.f249,Go.Proofs.Tryz.func249,by kernel_rfl,by kernel_rfl⟩
theorem f228Ok (k:Nat)(x:Int)(y:ByteArray)(h:f228F k x=some y):FnOk Go.Proofs.Tryz.prog 249 [.dat (.int .i64)] [.dat .str] x y:=by
 unfold f228F at h
 cases hc:(decide (-9223372036854775808<=x)&&decide (x<=9223372036854775807)) with
 | false=>rw[hc] at h;cases h
 | true =>
  rw[hc] at h
  cases h
  simp only[Bool.and_eq_true,decide_eq_true_eq] at hc
  refine same_ok (.string ⟨(Lib.itoa x).toArray⟩) rfl (fun _ _ _=>rfl) fun γ F w vals hF hvals=>?_
  match vals,hvals with
  | [a],⟨ha,_⟩ =>
   have ha:a=.int .i64 x:=ha
   subst ha
   have htab : Lib.TabIs Go.Proofs.Tryz.prog w "internal/strconv.uint64pow10" .u64 Lib.pow10Tab := by
    obtain⟨_,t,fz,e⟩:=hF.gnd.1 (3,(Lib.pow10Tab.map fun z=>Value.int .u64 z).toArray) (List.mem_singleton.2 rfl)
    have hg : Go.Proofs.Tryz.prog.globalNamed "internal/strconv.uint64pow10" = some 3 := by kernel_rfl
    have e:w.heap[3]?=some (.cells (Lib.pow10Tab.map fun z=>Value.int .u64 z).toArray t fz):=e
    unfold Lib.TabIs World.var?
    rw[hg]
    show (match w.heap[3]? with | some (.cells cs _ _)=>some cs | _=>none)=_
    rw[e]
   have hr:=Any.strconv_Itoa laysM171 x hc.1 hc.2 w htab
   refine (show Calls Go.Proofs.Tryz.prog 249 #[.int .i64 x] w _ from hr).mono fun e w' ⟨he,n,os,hw⟩=>?_
   subst hw
   exact⟨he,rfl,rfl,rfl,by simp,fun b hb=>Array.getElem?_append_left hb⟩
def clr112:Go.Shelf.Ren:=⟨fun | 41=>112 | n=>n,fun | 22=>75 | 23=>182 | 4=>4 | n=>n,fun n=>n⟩
theorem cll112:SlLaysE0.n41 Go.Proofs.Tryz.prog clr112:={
 mixed:=by kernel_rfl
 f41:=⟨Go.Proofs.Tryz.f112.name,by kernel_rfl,Go.Proofs.Tryz.func112.trans (congrArg some (by kernel_rfl))⟩
 t4:=Go.Proofs.Tryz.underlying4
 a4:=Go.Proofs.Tryz.isAgg4
 z4:=Go.Proofs.Tryz.sizeOf4
 v4:=Go.Proofs.Tryz.zeroValue4
 t22:=Go.Proofs.Tryz.underlying75
 a22:=Go.Proofs.Tryz.isAgg75
 z22:=Go.Proofs.Tryz.sizeOf75
 v22:=Go.Proofs.Tryz.zeroValue75 }
def f1012F (k:Nat)(x:List (Int×(Int×(Int×(Bool×(Bool×Bool)))))):Option (List (Int×(Int×(Int×(Bool×(Bool×Bool)))))):=cloneF (Int×(Int×(Int×(Bool×(Bool×Bool))))) 32 x
theorem f1012B:HasBody Go.Proofs.Tryz.prog 112:=⟨Go.Proofs.Tryz.f112,Go.Proofs.Tryz.func112,by kernel_rfl,by kernel_rfl⟩
theorem f1012Ok (k:Nat)(x y:List (Int×(Int×(Int×(Bool×(Bool×Bool))))))(h:f1012F k x=some y):FnOk Go.Proofs.Tryz.prog 112 [.dat (.slice (.pair (.int .i64) (.pair (.int .i64) (.pair (.int .i64) (.pair .bool (.pair .bool .bool))))))] [.own 182 (.pair (.int .i64) (.pair (.int .i64) (.pair (.int .i64) (.pair .bool (.pair .bool .bool)))))] x y :=
 clone_ok cll112 (e:=(.pair (.int .i64) (.pair (.int .i64) (.pair (.int .i64) (.pair .bool (.pair .bool .bool)))))) (i0:=Go.Proofs.Tryz.t182) (z:=(Go.Proofs.Tryz.t182.zero).getD (.bool false)) (bytes:=32) (by kernel_rfl) (by kernel_rfl) (by kernel_rfl) (by kernel_rfl) (by kernel_rfl) Go.Proofs.Tryz.sizeOf182 x y h
def clr89:Go.Shelf.Ren:=⟨fun | 41=>89 | n=>n,fun | 22=>69 | 23=>119 | 4=>4 | n=>n,fun n=>n⟩
theorem cll89:SlLaysE0.n41 Go.Proofs.Tryz.prog clr89:={
 mixed:=by kernel_rfl
 f41:=⟨Go.Proofs.Tryz.f89.name,by kernel_rfl,Go.Proofs.Tryz.func89.trans (congrArg some (by kernel_rfl))⟩
 t4:=Go.Proofs.Tryz.underlying4
 a4:=Go.Proofs.Tryz.isAgg4
 z4:=Go.Proofs.Tryz.sizeOf4
 v4:=Go.Proofs.Tryz.zeroValue4
 t22:=Go.Proofs.Tryz.underlying69
 a22:=Go.Proofs.Tryz.isAgg69
 z22:=Go.Proofs.Tryz.sizeOf69
 v22:=Go.Proofs.Tryz.zeroValue69 }
def f989F (k:Nat)(x:List (Int×ByteArray)):Option (List (Int×ByteArray)):=cloneF (Int×ByteArray) 24 x
theorem f989B:HasBody Go.Proofs.Tryz.prog 89:=⟨Go.Proofs.Tryz.f89,Go.Proofs.Tryz.func89,by kernel_rfl,by kernel_rfl⟩
theorem f989Ok (k:Nat)(x y:List (Int×ByteArray))(h:f989F k x=some y):FnOk Go.Proofs.Tryz.prog 89 [.dat (.slice (.pair (.int .i64) .str))] [.own 119 (.pair (.int .i64) .str)] x y :=
 clone_ok cll89 (e:=(.pair (.int .i64) .str)) (i0:=Go.Proofs.Tryz.t119) (z:=(Go.Proofs.Tryz.t119.zero).getD (.bool false)) (bytes:=24) (by kernel_rfl) (by kernel_rfl) (by kernel_rfl) (by kernel_rfl) (by kernel_rfl) Go.Proofs.Tryz.sizeOf119 x y h
end Go.Proofs.YteadgfclfopccaaGreatDoor
