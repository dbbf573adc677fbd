/- Part of ConsoleSays. -/
import Derived.Test.YtmgngapkgcofnabGreatDoorMac
import Derived.Shelf.Small.Strs
import Derived.Shelf.Utf8.RuneCount
import Derived.Shelf.Strconv.Itoa3
import Derived.Shelf.Pu.ParseUintPublic10
import Derived.Shelf.Strings.Shaped
import Derived.Shelf.Strings.SplitShaped
import Derived.Shelf.Strings.Explode
import Derived.Shelf.Strings.Repeat
import Derived.Shelf.Unicode.DecodeAny
import Derived.Shelf.Strings.BuilderCap
import Derived.Test.YtmgngapkgcofnabGreatDoorV02
import Derived.BigQuiet
import Derived.PlainAid
import Derived.Lib.AppendIntMem
set_option linter.all false
set_option maxRecDepth 100000
set_option maxHeartbeats 16000000
namespace Go.Proofs
open Go.Shelf
def Tryz.lays169_ren:Go.Shelf.Ren:=⟨fun|169=>84|n=>n,fun|70=>173|9=>9|0=>0|72=>175|37=>96|127=>235|3=>3|5=>5|n=>n,fun|n=>n⟩
def Tryz.lays169:Go.Proofs.Lays.n169 Tryz.prog Tryz.lays169_ren:={
 mixed:=by kernel_rfl
 f169:=Tryz.func84.trans (QJ some Z3)
 t0:=Rt
 a0:=Si
 z0:=SY
 v0:=Rz
 t3:=Q2
 a3:=SW
 z3:=SK
 v3:=Rb
 t9:=Qy
 a9:=SL
 z9:=R_
 v9:=Rj
 t37:=Qo
 a37:=Ss
 z37:=Sm
 v37:=SQ
 t70:=S6
 a70:=UD
 z70:=Tu
 v70:=TE
 t72:=S7
 a72:=UE
 z72:=Tv
 v72:=TF
 t127:=Tryz.underlying235
 a127:=Tryz.isAgg235
 z127:=Tryz.sizeOf235
 v127:=Tryz.zeroValue235}
def Tryz.Builder_Extra_169:Builder.Extra Tryz.prog Tryz.lays169_ren:={
 sizeBuilder:=by kernel_rfl
 liesBuilder:=by kernel_rfl
 t5:=Q9
 a5:=SN
 z5:=SD
 v5:=Rk
 infoByte:=by kernel_rfl
 cellsByte:=by kernel_rfl
 sizeByte:=by kernel_rfl
 neB5:=by decide}
def Tryz.lays165_ren:Go.Shelf.Ren:=⟨fun|165=>188|240=>134|241=>214|276=>175|277=>232|n=>n,fun|70=>173|3=>3|0=>0|4=>4|9=>9|20=>20|72=>175|37=>96|164=>277|5=>5|n=>n,fun|n=>n⟩
def Tryz.lays165:Go.Proofs.Lays.n165 Tryz.prog Tryz.lays165_ren:={
 mixed:=by kernel_rfl
 f165:=Tryz.func188.trans (QJ some Z3)
 f240:=Tryz.func134.trans (QJ some Z3)
 f241:=Tryz.func214.trans (QJ some Z3)
 f276:=Tryz.func175.trans (QJ some Z3)
 f277:=Tryz.func232.trans (QJ some Z3)
 t0:=Rt
 a0:=Si
 z0:=SY
 v0:=Rz
 t3:=Q2
 a3:=SW
 z3:=SK
 v3:=Rb
 t4:=Ru
 a4:=Sj
 z4:=SZ
 v4:=R3
 t9:=Qy
 a9:=SL
 z9:=R_
 v9:=Rj
 t20:=Sn
 a20:=Tt
 z20:=Td
 v20:=Sr
 t37:=Qo
 a37:=Ss
 z37:=Sm
 v37:=SQ
 t70:=S6
 a70:=UD
 z70:=Tu
 v70:=TE
 t72:=S7
 a72:=UE
 z72:=Tv
 v72:=TF
 t164:=Tq
 a164:=Tryz.isAgg277
 z164:=Uk
 v164:=T6}
def Tryz.Builder_Extra_165:Builder.Extra Tryz.prog Tryz.lays165_ren:={
 sizeBuilder:=by kernel_rfl
 liesBuilder:=by kernel_rfl
 t5:=Q9
 a5:=SN
 z5:=SD
 v5:=Rk
 infoByte:=by kernel_rfl
 cellsByte:=by kernel_rfl
 sizeByte:=by kernel_rfl
 neB5:=by decide}
open Go.RowKit in
def Tryz.Builder_Grow_fresh(B b n:V)(w:Y)(hB:B<=b)(ah:w.heap[b]? =some (E #[Ug none,M none 0 0] 175))(af:B<=w.heap.size)(hn:n<=281474976710656):
  Cz 188 #[Ug (b,0),I n] w fun e w'=>e=Ud (Uh #[])/\(Lib.BuilderAt 175 5 B b (Ug (b,0)) [] w'/\Below B w w'):=Any.Builder_Grow_fresh Tryz.lays165 Tryz.Builder_Extra_165 B b n w hB ah af hn
def Tryz.lays137_ren:Go.Shelf.Ren:=⟨fun|137=>194|217=>216|266=>233|n=>n,fun|9=>9|5=>5|3=>3|n=>n,fun|n=>n⟩
def Tryz.lays137:Go.Proofs.Lays.n137 Tryz.prog Tryz.lays137_ren:={
 mixed:=by kernel_rfl
 f137:=Tryz.func194.trans (QJ some Z3)
 f217:=Tryz.func216.trans (QJ some Z3)
 f266:=Tryz.func233.trans (QJ some Z3)
 t3:=Q2
 a3:=SW
 z3:=SK
 v3:=Rb
 t5:=Q9
 a5:=SN
 z5:=SD
 v5:=Rk
 t9:=Qy
 a9:=SL
 z9:=R_
 v9:=Rj}
open Go.RowKit in
def Tryz.strings_IndexByte(s:J)(c:G)(w:Y):
  Cz 194 #[O s,Ui c] w fun e w'=>e=Ud (I (Lib.indexByte s.data.toList c.toNat.toUInt8))/\w'=w:=Any.strings_IndexByte Tryz.lays137 s c w
open Go.RowKit in
def Tryz.Builder_String_any_k(B b:V)(l:List Ut)(w:Y)(h:Lib.IsBuilderF 175 5 B b (Lib.byteCells l) w)(af:B<=w.heap.size):
  Cz 84 #[Ug (b,0)] w fun e w'=>e=Ud (O ⟨l.toArray⟩)/\(Lib.IsBuilderF 175 5 B b (Lib.byteCells l) w'/\Below B w w'/\Lib.OthersKept 5 (some b) w w'):=Any.Builder_String_any_k Tryz.lays169 Tryz.Builder_Extra_169 B b l w h af
def Tryz.lays283_ren:Go.Shelf.Ren:=⟨fun|283=>223|n=>n,fun|3=>3|9=>9|4=>4|n=>n,fun|n=>n⟩
def Tryz.lays283:Go.Proofs.Lays.n283 Tryz.prog Tryz.lays283_ren:={
 mixed:=by kernel_rfl
 f283:=Tryz.func223.trans (QJ some Z3)
 t3:=Q2
 a3:=SW
 z3:=SK
 v3:=Rb
 t4:=Ru
 a4:=Sj
 z4:=SZ
 v4:=R3
 t9:=Qy
 a9:=SL
 z9:=R_
 v9:=Rj}
open Go.Lib in
def Tryz.internal_strconv_small(i:V)(h:i<100)(w:Y):
  Cz 223 #[I i] w fun e w'=>e=Ud (O ⟨(Lib.decDigits i).toArray⟩)/\w'=w:=Any.internal_strconv_small Tryz.lays283 i h w
def Tryz.laysM284_ren:Go.Shelf.Ren:=⟨fun|284=>224|129=>237|317=>236|318=>238|n=>n,fun|53=>42|3=>3|212=>339|0=>0|4=>4|46=>231|5=>5|9=>9|n=>n,fun|17=>3|n=>n⟩
def Tryz.laysM284:Go.Proofs.LaysM.n284 Tryz.prog Tryz.laysM284_ren:={
 mixed:=by kernel_rfl
 f129:=Tryz.func237.trans (QJ some Z3)
 f284:=Tryz.func224.trans (QJ some Z3)
 f317:=Tryz.func236.trans (QJ some Z3)
 f318:=Tryz.func238.trans (QJ some Z3)
 t0:=Rt
 a0:=Si
 z0:=SY
 v0:=Rz
 t3:=Q2
 a3:=SW
 z3:=SK
 v3:=Rb
 t4:=Ru
 a4:=Sj
 z4:=SZ
 v4:=R3
 t5:=Q9
 a5:=SN
 z5:=SD
 v5:=Rk
 t9:=Qy
 a9:=SL
 z9:=R_
 v9:=Rj
 t46:=S8
 a46:=UF
 z46:=Tw
 v46:=TG
 t53:=TH
 a53:=UV
 z53:=UG
 v53:=TY
 t212:=Tryz.underlying339
 a212:=Tryz.isAgg339
 z212:=Tryz.sizeOf339
 v212:=Tryz.zeroValue339
 g17:=by kernel_rfl
 i0:=by kernel_rfl
 i3:=by kernel_rfl
 i4:=by kernel_rfl
 i5:=by kernel_rfl
 i9:=by kernel_rfl
 i46:=by kernel_rfl
 i53:=by kernel_rfl
 i212:=by kernel_rfl
 m17:=by kernel_rfl}
open Go.Lib in
def Tryz.internal_strconv_numDigits(u:V)(h1:1<=u)(h2:u<18446744073709551616)(w:Y)(ab:Lib.TabIs Tryz.prog w "internal/strconv.uint64pow10" .u64 Lib.pow10Tab):
  Cz 224 #[U u] w fun e w'=>e=Ud (I (Lib.nDigits u))/\w'=w:=Any.internal_strconv_numDigits Tryz.laysM284 u h1 h2 w ab
def Tryz.lays285_ren:Go.Shelf.Ren:=⟨fun|285=>225|n=>n,fun|37=>96|53=>42|3=>3|4=>4|51=>43|9=>9|5=>5|0=>0|n=>n,fun|n=>n⟩
def Tryz.lays285:Go.Proofs.Lays.n285 Tryz.prog Tryz.lays285_ren:={
 mixed:=by kernel_rfl
 f285:=Tryz.func225.trans (QJ some Z3)
 t0:=Rt
 a0:=Si
 z0:=SY
 v0:=Rz
 t3:=Q2
 a3:=SW
 z3:=SK
 v3:=Rb
 t4:=Ru
 a4:=Sj
 z4:=SZ
 v4:=R3
 t5:=Q9
 a5:=SN
 z5:=SD
 v5:=Rk
 t9:=Qy
 a9:=SL
 z9:=R_
 v9:=Rj
 t37:=Qo
 a37:=Ss
 z37:=Sm
 v37:=SQ
 t51:=Sd
 a51:=UW
 z51:=UH
 v51:=TZ
 t53:=TH
 a53:=UV
 z53:=UG
 v53:=TY}
open Go.RowKit Go.Sort Go.Lib in
def Tryz.internal_strconv_formatBase10(blk off cap:V)(u:V)(d:Array Ut)(w:Y)(hH:Holds (fun(b:Ut)=>Value.int .u8 (b.toNat:G)) w blk off d)(hu:u<10^d.size)(ac:u<18446744073709551616)(ai:d.size<4611686018427387904):
  Cz 225 #[M (blk,off) d.size cap,U u] w fun e w'=>e=Ud (Uh #[])/\∃(n v':V) (dk:Array Ut),w'=(putRow (fun(b:Ut)=>Value.int .u8 (b.toNat:G)) w blk off dk).drewN n/\FmtInv d.size u 0 v' dk:=Any.internal_strconv_formatBase10 Tryz.lays285 blk off cap u d w hH hu ac ai
def Tryz.laysM246_ren:Go.Shelf.Ren:=⟨fun|246=>198|283=>223|284=>224|285=>225|286=>226|129=>237|317=>236|318=>238|319=>239|320=>240|337=>242|338=>243|n=>n,fun|2=>2|3=>3|9=>9|4=>4|171=>331|0=>0|53=>42|37=>96|5=>5|173=>333|212=>339|51=>43|20=>20|213=>340|46=>231|232=>351|233=>108|n=>n,fun|17=>3|18=>6|19=>7|n=>n⟩
def Tryz.laysM243_ren:Go.Shelf.Ren:=⟨fun|243=>165|246=>198|283=>223|284=>224|285=>225|286=>226|129=>237|317=>236|318=>238|319=>239|320=>240|337=>242|338=>243|n=>n,fun|3=>3|9=>9|2=>2|4=>4|171=>331|0=>0|53=>42|37=>96|5=>5|173=>333|212=>339|51=>43|20=>20|213=>340|46=>231|232=>351|233=>108|n=>n,fun|17=>3|18=>6|19=>7|n=>n⟩
def Tryz.laysM171_ren:Go.Shelf.Ren:=⟨fun|171=>120|243=>165|246=>198|283=>223|284=>224|285=>225|286=>226|129=>237|317=>236|318=>238|319=>239|320=>240|337=>242|338=>243|n=>n,fun|3=>3|9=>9|2=>2|4=>4|171=>331|0=>0|53=>42|37=>96|5=>5|173=>333|212=>339|51=>43|20=>20|213=>340|46=>231|232=>351|233=>108|n=>n,fun|17=>3|18=>6|19=>7|n=>n⟩
def Tryz.laysM171:Go.Proofs.LaysM.n171 Tryz.prog Tryz.laysM171_ren:={
 mixed:=by kernel_rfl
 f129:=Tryz.func237.trans (QJ some Z3)
 f171:=Tryz.func120.trans (QJ some Z3)
 f243:=Tryz.func165.trans (QJ some Z3)
 f246:=Tryz.func198.trans (QJ some Z3)
 f283:=Tryz.func223.trans (QJ some Z3)
 f284:=Tryz.func224.trans (QJ some Z3)
 f285:=Tryz.func225.trans (QJ some Z3)
 f286:=Tryz.func226.trans (QJ some Z3)
 f317:=Tryz.func236.trans (QJ some Z3)
 f318:=Tryz.func238.trans (QJ some Z3)
 f319:=Tryz.func239.trans (QJ some Z3)
 f320:=Tryz.func240.trans (QJ some Z3)
 f337:=Tryz.func242.trans (QJ some Z3)
 f338:=Tryz.func243.trans (QJ some Z3)
 t0:=Rt
 a0:=Si
 z0:=SY
 v0:=Rz
 t2:=Tryz.underlying2
 a2:=Tryz.isAgg2
 z2:=Tryz.sizeOf2
 v2:=Tryz.zeroValue2
 t3:=Q2
 a3:=SW
 z3:=SK
 v3:=Rb
 t4:=Ru
 a4:=Sj
 z4:=SZ
 v4:=R3
 t5:=Q9
 a5:=SN
 z5:=SD
 v5:=Rk
 t9:=Qy
 a9:=SL
 z9:=R_
 v9:=Rj
 t20:=Sn
 a20:=Tt
 z20:=Td
 v20:=Sr
 t37:=Qo
 a37:=Ss
 z37:=Sm
 v37:=SQ
 t46:=S8
 a46:=UF
 z46:=Tw
 v46:=TG
 t51:=Sd
 a51:=UW
 z51:=UH
 v51:=TZ
 t53:=TH
 a53:=UV
 z53:=UG
 v53:=TY
 t171:=Tr
 a171:=Tryz.isAgg331
 z171:=Tryz.sizeOf331
 v171:=Tryz.zeroValue331
 t173:=Tryz.underlying333
 a173:=Tryz.isAgg333
 z173:=Tryz.sizeOf333
 v173:=Tryz.zeroValue333
 t212:=Tryz.underlying339
 a212:=Tryz.isAgg339
 z212:=Tryz.sizeOf339
 v212:=Tryz.zeroValue339
 t213:=Tryz.underlying340
 a213:=Tryz.isAgg340
 z213:=Tryz.sizeOf340
 t232:=Tryz.underlying351
 a232:=Tryz.isAgg351
 z232:=Tryz.sizeOf351
 v232:=Tryz.zeroValue351
 t233:=Tryz.underlying108
 a233:=Tryz.isAgg108
 z233:=Tryz.sizeOf108
 v233:=Tryz.zeroValue108
 g17:=by kernel_rfl
 g18:=by kernel_rfl
 g19:=by kernel_rfl
 i0:=by kernel_rfl
 i2:=by kernel_rfl
 i3:=by kernel_rfl
 i4:=by kernel_rfl
 i5:=by kernel_rfl
 i9:=by kernel_rfl
 i20:=by kernel_rfl
 i37:=by kernel_rfl
 i46:=by kernel_rfl
 i51:=by kernel_rfl
 i53:=by kernel_rfl
 i171:=by kernel_rfl
 i173:=by kernel_rfl
 i212:=by kernel_rfl
 i232:=by kernel_rfl
 i233:=by kernel_rfl
 m17:=by kernel_rfl
 m18:=by kernel_rfl
 m19:=by kernel_rfl}
open Go.RowKit Go.Sort Go.Lib in
def Tryz.strconv_Itoa(n:G)(h0: -9223372036854775808<=n)(h1:n<=9223372036854775807)(w:Y)(ab:Lib.TabIs Tryz.prog w "internal/strconv.uint64pow10" .u64 Lib.pow10Tab):
  Cz 120 #[I n] w fun e w'=>e=Ud (O ⟨(Lib.itoa n).toArray⟩)/\∃k os,w'=grow (w.drewN k) os:=Any.strconv_Itoa Tryz.laysM171 n h0 h1 w ab
def Tryz.laysPu14_ren:Go.Shelf.Ren:=⟨fun|14=>161|16=>195|17=>196|19=>217|20=>218|21=>219|22=>220|23=>221|24=>222|25=>234|27=>120|26=>235|28=>165|29=>198|30=>223|31=>224|32=>225|33=>226|35=>237|34=>236|36=>238|37=>239|38=>240|39=>242|40=>243|n=>n,fun|9=>9|3=>3|22=>42|24=>34|25=>205|4=>4|34=>325|5=>5|36=>231|37=>96|0=>0|39=>328|21=>21|44=>337|47=>235|50=>349|48=>347|2=>2|52=>331|55=>333|59=>339|60=>43|20=>20|61=>340|65=>351|66=>108|67=>184|n=>n,fun|0=>1|1=>2|2=>3|3=>6|4=>7|n=>n⟩
def Tryz.laysPu14:Go.Proofs.LaysPu.n14 Tryz.prog Tryz.laysPu14_ren:={
 mixed:=by kernel_rfl
 f14:=Tryz.func161.trans (QJ some Z3)
 f16:=Tryz.func195.trans (QJ some Z3)
 f17:=Tryz.func196.trans (QJ some Z3)
 f19:=Tryz.func217.trans (QJ some Z3)
 f20:=Tryz.func218.trans (QJ some Z3)
 f21:=Tryz.func219.trans (QJ some Z3)
 f22:=Tryz.func220.trans (QJ some Z3)
 f23:=Tryz.func221.trans (QJ some Z3)
 f24:=Tryz.func222.trans (QJ some Z3)
 f25:=Tryz.func234.trans (QJ some Z3)
 f26:=Tryz.func235.trans (QJ some Z3)
 f27:=Tryz.func120.trans (QJ some Z3)
 f28:=Tryz.func165.trans (QJ some Z3)
 f29:=Tryz.func198.trans (QJ some Z3)
 f30:=Tryz.func223.trans (QJ some Z3)
 f31:=Tryz.func224.trans (QJ some Z3)
 f32:=Tryz.func225.trans (QJ some Z3)
 f33:=Tryz.func226.trans (QJ some Z3)
 f34:=Tryz.func236.trans (QJ some Z3)
 f35:=Tryz.func237.trans (QJ some Z3)
 f36:=Tryz.func238.trans (QJ some Z3)
 f37:=Tryz.func239.trans (QJ some Z3)
 f38:=Tryz.func240.trans (QJ some Z3)
 f39:=Tryz.func242.trans (QJ some Z3)
 f40:=Tryz.func243.trans (QJ some Z3)
 t0:=Rt
 a0:=Si
 z0:=SY
 v0:=Rz
 i0:=by kernel_rfl
 t2:=Tryz.underlying2
 a2:=Tryz.isAgg2
 z2:=Tryz.sizeOf2
 v2:=Tryz.zeroValue2
 i2:=by kernel_rfl
 t3:=Q2
 a3:=SW
 z3:=SK
 v3:=Rb
 i3:=by kernel_rfl
 t4:=Ru
 a4:=Sj
 z4:=SZ
 v4:=R3
 i4:=by kernel_rfl
 t5:=Q9
 a5:=SN
 z5:=SD
 v5:=Rk
 i5:=by kernel_rfl
 t9:=Qy
 a9:=SL
 z9:=R_
 v9:=Rj
 i9:=by kernel_rfl
 t20:=Sn
 a20:=Tt
 z20:=Td
 v20:=Sr
 i20:=by kernel_rfl
 t21:=Tryz.underlying21
 a21:=Tryz.isAgg21
 z21:=Tryz.sizeOf21
 v21:=Tryz.zeroValue21
 i21:=by kernel_rfl
 t22:=TH
 a22:=UV
 z22:=UG
 v22:=TY
 i22:=by kernel_rfl
 t24:=TA
 a24:=Tryz.isAgg34
 z24:=Tryz.sizeOf34
 v24:=UP
 i24:=by kernel_rfl
 t25:=Tryz.underlying205
 a25:=Tryz.isAgg205
 z25:=Tryz.sizeOf205
 v25:=Tryz.zeroValue205
 i25:=by kernel_rfl
 t34:=Tryz.underlying325
 a34:=Tryz.isAgg325
 z34:=Tryz.sizeOf325
 v34:=Tryz.zeroValue325
 i34:=by kernel_rfl
 c34:=by kernel_rfl
 t36:=S8
 a36:=UF
 z36:=Tw
 v36:=TG
 i36:=by kernel_rfl
 t37:=Qo
 a37:=Ss
 z37:=Sm
 v37:=SQ
 i37:=by kernel_rfl
 t39:=Tryz.underlying328
 a39:=Tryz.isAgg328
 z39:=Tryz.sizeOf328
 v39:=Tryz.zeroValue328
 i39:=by kernel_rfl
 t44:=Tryz.underlying337
 a44:=Tryz.isAgg337
 z44:=Tryz.sizeOf337
 v44:=Tryz.zeroValue337
 i44:=by kernel_rfl
 t47:=Tryz.underlying235
 a47:=Tryz.isAgg235
 z47:=Tryz.sizeOf235
 v47:=Tryz.zeroValue235
 i47:=by kernel_rfl
 t48:=Tryz.underlying347
 a48:=Tryz.isAgg347
 z48:=Tryz.sizeOf347
 v48:=Tryz.zeroValue347
 i48:=by kernel_rfl
 t50:=Tryz.underlying349
 a50:=Tryz.isAgg349
 z50:=Tryz.sizeOf349
 v50:=Tryz.zeroValue349
 i50:=by kernel_rfl
 t52:=Tr
 a52:=Tryz.isAgg331
 z52:=Tryz.sizeOf331
 v52:=Tryz.zeroValue331
 i52:=by kernel_rfl
 t55:=Tryz.underlying333
 a55:=Tryz.isAgg333
 z55:=Tryz.sizeOf333
 v55:=Tryz.zeroValue333
 i55:=by kernel_rfl
 t59:=Tryz.underlying339
 a59:=Tryz.isAgg339
 z59:=Tryz.sizeOf339
 v59:=Tryz.zeroValue339
 i59:=by kernel_rfl
 t60:=Sd
 a60:=UW
 z60:=UH
 v60:=TZ
 i60:=by kernel_rfl
 t61:=Tryz.underlying340
 a61:=Tryz.isAgg340
 z61:=Tryz.sizeOf340
 t65:=Tryz.underlying351
 a65:=Tryz.isAgg351
 z65:=Tryz.sizeOf351
 v65:=Tryz.zeroValue351
 i65:=by kernel_rfl
 t66:=Tryz.underlying108
 a66:=Tryz.isAgg108
 z66:=Tryz.sizeOf108
 v66:=Tryz.zeroValue108
 i66:=by kernel_rfl
 t67:=Tryz.underlying184
 a67:=Tryz.isAgg184
 z67:=Tryz.sizeOf184
 v67:=Tryz.zeroValue184
 i67:=by kernel_rfl
 g0:=by kernel_rfl
 m0:=by kernel_rfl
 g1:=by kernel_rfl
 m1:=by kernel_rfl
 g2:=by kernel_rfl
 m2:=by kernel_rfl
 g3:=by kernel_rfl
 m3:=by kernel_rfl
 g4:=by kernel_rfl
 m4:=by kernel_rfl}
open Go.RowKit in
def Tryz.strconv_ParseUint_10_at64_ok(s:J)(ae:s.size<=9223372036854775806)(u:V)(h:Lib.parseUintB 64 s.data.toList=.ok u)(w:Y):
  Cz 161 #[O s,I 10,I 64] w fun e w'=>e=Ud (Uh #[U u,.nilIface])/\(w'=w\/w'=Lib.bytesWorld w 5 s):=Any.strconv_ParseUint_10_at64_ok Tryz.laysPu14 s ae u h w
open Go.RowKit in
def Tryz.strconv_ParseUint_10_at64_syntax(s:J)(aa:s.size<=281474976710656)(h:Lib.parseUintB 64 s.data.toList=Lib.parseUintB 64 [])(ev:X)(w:Y)(hv:w.cell? (1,0)=some ev)(ag:ev=.nilIface\/∃te pe,ev=.iface te pe):
  Cz 161 #[O s,I 10,I 64] w fun e w'=>∃U1,e=Ud (Uh #[U 0,.iface 328 (Ug (some ⟨U1,0,none⟩))])/\w.heap.size<=U1/\w'.heap[U1]? =some (E #[O ⟨#[80,97,114,115,101,85,105,110,116]⟩,O s,ev] 337)/\(w,w'):=Any.strconv_ParseUint_10_at64_syntax Tryz.laysPu14 s aa h ev w hv ag
open Go.RowKit in
def Tryz.strconv_ParseUint_10_at64_range(s:J)(aa:s.size<=281474976710656)(h:Lib.parseUintB 64 s.data.toList=.range)(ev:X)(w:Y)(hv:w.cell? (2,0)=some ev)(ag:ev=.nilIface\/∃te pe,ev=.iface te pe):
  Cz 161 #[O s,I 10,I 64] w fun e w'=>∃U1,e=Ud (Uh #[U 18446744073709551615,.iface 328 (Ug (some ⟨U1,0,none⟩))])/\w.heap.size<=U1/\w'.heap[U1]? =some (E #[O ⟨#[80,97,114,115,101,85,105,110,116]⟩,O s,ev] 337)/\(w,w'):=Any.strconv_ParseUint_10_at64_range Tryz.laysPu14 s aa h ev w hv ag
def Tryz.lays221_ren:Go.Shelf.Ren:=⟨fun|221=>138|268=>177|138=>178|143=>179|195=>204|197=>205|218=>206|219=>207|260=>228|217=>216|225=>229|224=>230|267=>231|266=>233|314=>241|n=>n,fun|9=>9|3=>3|31=>63|4=>4|0=>0|105=>305|21=>21|5=>5|46=>231|119=>342|139=>345|138=>344|146=>320|51=>43|n=>n,fun|1=>0|3=>4|4=>5|n=>n⟩
def Tryz.lays146_ren:Go.Shelf.Ren:=⟨fun|146=>85|221=>138|268=>177|138=>178|143=>179|195=>204|197=>205|218=>206|219=>207|260=>228|217=>216|225=>229|224=>230|267=>231|266=>233|314=>241|n=>n,fun|9=>9|31=>63|3=>3|4=>4|0=>0|105=>305|21=>21|5=>5|46=>231|119=>342|139=>345|138=>344|146=>320|51=>43|n=>n,fun|1=>0|3=>4|4=>5|n=>n⟩
def Tryz.lays146:Go.Proofs.Lays.n146 Tryz.prog Tryz.lays146_ren:={
 mixed:=by kernel_rfl
 f138:=Tryz.func178.trans (QJ some Z3)
 f143:=Tryz.func179.trans (QJ some Z3)
 f146:=Tryz.func85.trans (QJ some Z3)
 f195:=Tryz.func204.trans (QJ some Z3)
 f197:=Tryz.func205.trans (QJ some Z3)
 f217:=Tryz.func216.trans (QJ some Z3)
 f218:=Tryz.func206.trans (QJ some Z3)
 f219:=Tryz.func207.trans (QJ some Z3)
 f221:=Tryz.func138.trans (QJ some Z3)
 f224:=Tryz.func230.trans (QJ some Z3)
 f225:=Tryz.func229.trans (QJ some Z3)
 f260:=Tryz.func228.trans (QJ some Z3)
 f266:=Tryz.func233.trans (QJ some Z3)
 f267:=Tryz.func231.trans (QJ some Z3)
 f268:=Tryz.func177.trans (QJ some Z3)
 f314:=Tryz.func241.trans (QJ some Z3)
 t0:=Rt
 a0:=Si
 z0:=SY
 v0:=Rz
 t3:=Q2
 a3:=SW
 z3:=SK
 v3:=Rb
 t4:=Ru
 a4:=Sj
 z4:=SZ
 v4:=R3
 t5:=Q9
 a5:=SN
 z5:=SD
 v5:=Rk
 t9:=Qy
 a9:=SL
 z9:=R_
 v9:=Rj
 t21:=Tryz.underlying21
 a21:=Tryz.isAgg21
 z21:=Tryz.sizeOf21
 v21:=Tryz.zeroValue21
 t31:=Sc
 a31:=Tryz.isAgg63
 z31:=Tryz.sizeOf63
 v31:=Tryz.zeroValue63
 t46:=S8
 a46:=UF
 z46:=Tw
 v46:=TG
 t51:=Sd
 a51:=UW
 z51:=UH
 v51:=TZ
 t105:=Tryz.underlying305
 a105:=Tryz.isAgg305
 z105:=Tryz.sizeOf305
 v105:=Tryz.zeroValue305
 t119:=Tryz.underlying342
 a119:=Tryz.isAgg342
 z119:=Tryz.sizeOf342
 t138:=Tryz.underlying344
 a138:=Tryz.isAgg344
 z138:=Tryz.sizeOf344
 v138:=Tryz.zeroValue344
 t139:=Tryz.underlying345
 a139:=Tryz.isAgg345
 z139:=Tryz.sizeOf345
 v139:=Tryz.zeroValue345
 t146:=Tryz.underlying320
 a146:=Tryz.isAgg320
 z146:=Tryz.sizeOf320
 v146:=Tryz.zeroValue320
 g1:=by kernel_rfl
 g3:=by kernel_rfl
 g4:=by kernel_rfl}
open Go.RowKit Go.Lib in
def Tryz.strings_Split(s sep:J)(m:G)(w:Y)(hs:s.size<4294967281)(hm:w.cell? (0,0)=some (I m))(h1:1<=sep.size):
  Cz 85 #[O s,O sep] w fun e w'=>e=Ud (M (w,0) (Lib.countB s sep+1) (Lib.countB s sep+1))/\w'=w.alloc (E ((Lib.splitB sep 0 (Lib.countB s sep) s).map Value.string).toArray 9):=Any.strings_Split Tryz.lays146 Z3 s sep m w hs hm h1
def Tryz.lays105_ren:Go.Shelf.Ren:=⟨fun|105=>149|212=>186|99=>187|165=>188|166=>80|170=>189|169=>84|263=>211|264=>212|206=>213|240=>134|241=>214|276=>175|277=>232|n=>n,fun|9=>9|3=>3|4=>4|20=>20|0=>0|46=>231|109=>291|5=>5|72=>175|76=>176|51=>43|146=>320|53=>42|148=>322|70=>173|37=>96|75=>34|127=>235|164=>277|80=>184|n=>n,fun|n=>n⟩
def Tryz.lays105:Go.Proofs.Lays.n105 Tryz.prog Tryz.lays105_ren:={
 mixed:=by kernel_rfl
 f99:=Tryz.func187.trans (QJ some Z3)
 f105:=Tryz.func149.trans (QJ some Z3)
 f165:=Tryz.func188.trans (QJ some Z3)
 f166:=Tryz.func80.trans (QJ some Z3)
 f169:=Tryz.func84.trans (QJ some Z3)
 f170:=Tryz.func189.trans (QJ some Z3)
 f206:=Tryz.func213.trans (QJ some Z3)
 f212:=Tryz.func186.trans (QJ some Z3)
 f240:=Tryz.func134.trans (QJ some Z3)
 f241:=Tryz.func214.trans (QJ some Z3)
 f263:=Tryz.func211.trans (QJ some Z3)
 f264:=Tryz.func212.trans (QJ some Z3)
 f276:=Tryz.func175.trans (QJ some Z3)
 f277:=Tryz.func232.trans (QJ some Z3)
 t0:=Rt
 a0:=Si
 z0:=SY
 v0:=Rz
 t3:=Q2
 a3:=SW
 z3:=SK
 v3:=Rb
 t4:=Ru
 a4:=Sj
 z4:=SZ
 v4:=R3
 t5:=Q9
 a5:=SN
 z5:=SD
 v5:=Rk
 t9:=Qy
 a9:=SL
 z9:=R_
 v9:=Rj
 t20:=Sn
 a20:=Tt
 z20:=Td
 v20:=Sr
 t37:=Qo
 a37:=Ss
 z37:=Sm
 v37:=SQ
 t46:=S8
 a46:=UF
 z46:=Tw
 v46:=TG
 t51:=Sd
 a51:=UW
 z51:=UH
 v51:=TZ
 t53:=TH
 a53:=UV
 z53:=UG
 v53:=TY
 t70:=S6
 a70:=UD
 z70:=Tu
 v70:=TE
 t72:=S7
 a72:=UE
 z72:=Tv
 v72:=TF
 t75:=TA
 a75:=Tryz.isAgg34
 z75:=Tryz.sizeOf34
 v75:=UP
 t76:=Tryz.underlying176
 a76:=Tryz.isAgg176
 z76:=Tryz.sizeOf176
 v76:=Tryz.zeroValue176
 t109:=Tryz.underlying291
 a109:=Tryz.isAgg291
 z109:=Tryz.sizeOf291
 v109:=Tryz.zeroValue291
 t127:=Tryz.underlying235
 a127:=Tryz.isAgg235
 z127:=Tryz.sizeOf235
 v127:=Tryz.zeroValue235
 t146:=Tryz.underlying320
 a146:=Tryz.isAgg320
 z146:=Tryz.sizeOf320
 v146:=Tryz.zeroValue320
 t148:=Tryz.underlying322
 a148:=Tryz.isAgg322
 z148:=Tryz.sizeOf322
 v148:=Tryz.zeroValue322
 t164:=Tq
 a164:=Tryz.isAgg277
 z164:=Uk
 v164:=T6}
def Tryz.Builder_Extra_105:Builder.Extra Tryz.prog Tryz.lays105_ren:={
 sizeBuilder:=by kernel_rfl
 liesBuilder:=by kernel_rfl
 t5:=Q9
 a5:=SN
 z5:=SD
 v5:=Rk
 infoByte:=by kernel_rfl
 cellsByte:=by kernel_rfl
 sizeByte:=by kernel_rfl
 neB5:=by decide}
open Go.RowKit Go.Lib in
def Tryz.strings_Repeat(s:J)(c:V)(w:Y)(hc:c<=9223372036854775807)(ad:s.size*c<=140737488355328):
  Cz 149 #[O s,I c] w (O ⟨(Lib.repeatL s.data.toList c).toArray⟩,w):=Any.strings_Repeat Tryz.lays105 Tryz.Builder_Extra_105 s c w hc ad
end Go.Proofs
namespace Go.Proofs
def qV050{P:Prop}(h:P:=by
  have c1:(w.alloc (E #[N (ip:G),I k,I lo,I hi] 45)).cell? (w,1)=some (I k):=by rw[QR _ _ _ _ _ _ zH];rfl
  have bn:F (w (w.alloc (E #[N (ip:G),I k,I lo,I hi] 45))):=bR.alloc nZ _;have bc:F (∀W n,w W->w (W.drewN n)):=fun W n h=>⟨h.os,h.tape,h.output,h.size,h.block⟩;go_enter Tryz.func171,Tryz.ntmps171;go_wp2_with fail;generalize w.alloc (E #[N (ip:G),I k,I lo,I hi] 45)=W at*
  go_region_held3 (fun w':Y=>w'.cell? (w,0)=some (N (ip:G))/\w'.cell? (w,1)=some (I k)) (first|exact⟨c0,c1⟩) (first
   |(go_at_call 174;refine zc ((bz.o _).mono ?_);rintro e w1 ⟨rfl,rfl⟩))
  go_wp2_with fail;go_ret;exact⟨O1,bc.o _ 1 bn.o⟩):P:=h
def qV051{P:Prop}(h:P:=by
  have HS:=D hs;clear hs ag;go_wp2_with fail;go_round
  case rel=>exact⟨(i+3),iC f (bt a i) (bt a (i+2)),true,OT,by rw[HS.o],Z,hF⟩
  case measure=>simp[intOf];omega):P:=h
def qV052{P:Prop}(h:P:=by
  have HS:=D hs;clear hs ag;go_wp2_with fail;go_round
  case rel=>exact⟨(i+1),iC f (bt a i) (bt a i),true,OT,by rw[HS.o],Z,hF⟩
  case measure=>simp[intOf];omega):P:=h
def qV053{P:Prop}(h:P:=by
  clear aa;go_enter Tryz.func171,Tryz.ntmps171;go_wp2_with fail;go_ret;exact⟨O1,OX⟩):P:=h
def qV054{P:Prop}(h:P:=by
  clear aa;go_enter Tryz.func91,Tryz.ntmps91;go_wp2_with fail;go_ret;exact⟨O1,OX⟩):P:=h
def qV055{P:Prop}(h:P:=by
  go_wp2_with (go_at_call 209;refine(mx _ _).mono ?_;rintro e w1 ⟨rfl,rfl⟩);go_ret;exact⟨O2,rfl⟩):P:=h
def qV056{P:Prop}(h:P:=by
  clear hc;go_enter Tryz.func215,Tryz.ntmps215;go_wp2_with fail;go_ret;exact⟨iW (by rw[au.o]),rfl⟩):P:=h
def qV057{P:Prop}(h:P:=by
  go_wp2_with (go_at_call 209;refine(mx _ _).mono ?_;rintro e w1 ⟨rfl,rfl⟩);go_round
  case rel=>exact⟨i+1,n+1,OT,OT,Z,Z,O3⟩
  case measure=>simp[intOf];omega):P:=h
def qV058{P:Prop}(h:P:=by
  subst h2;clear h1 k1 k3;go_enter Tryz.func126,Tryz.ntmps126;go_wp2_with fail;go_ret;exact⟨O1,OX⟩):P:=h
def qV059{P:Prop}(h:P:=by
  subst h2;clear h1 k1 k3;go_enter Tryz.func39,Tryz.ntmps39;go_wp2_with fail;go_ret;exact⟨O1,OX⟩):P:=h
def qV0510{P:Prop}(h:P:=by
  go_wp2_with fail
  go_ret2
  refine⟨?_,hb⟩;unfold qd;rw[hF.o];refine⟨v,ls,?_,aP.o,hO.o⟩;rw[hd.o,a7.o];rfl):P:=h
def qV0511{P:Prop}(h:P:=by
  intro b aD;rw[rY s k am,Qn]at aD;rcases aD with h|h
  ·exact hD.o b h
  simp only[Qm]at h;subst h;exact ae.2 hd):P:=h
def qV0512{P:Prop}(h:P:=by
  go_wp2_with fail;go_returns;exact⟨⟨0,false,rfl,Z,HF.o⟩,bR⟩):P:=h
def qV0513{P:Prop}(h:P:=by
  clear c92 c91 c42;go_wp2_with (go_at_call 182;refine(wd _ _).mono ?_;rintro e w1 ⟨rfl,rfl⟩)
  go_meet
  exact⟨O4,rfl⟩):P:=h
end Go.Proofs
namespace Go.Proofs.YtmgngapkgcofnabGreatDoor
open Go.RowKit
structure gM where
 ip:G
 bits:G
 lo:G
 hi:G
deriving DecidableEq
def gM.v(n:gM):X:=Uf #[N n.ip,I n.bits,I n.lo,I n.hi]
def gM.ok(n:gM):Us:=(0<=n.ip/\n.ip<4294967296)/\(Lit.int .i64 n.bits).wf=true/\(Lit.int .i64 n.lo).wf=true/\(Lit.int .i64 n.hi).wf=true
def gM.bad(n:gM):Us:=n.bits<0\/32<n.bits\/n.lo<0\/65535<n.hi\/n.hi<n.lo
instance (n:gM):Decidable n.bad:=by unfold gM.bad;infer_instance
def it(n:gM):G:=if n.bad then 1 else if n.ip.toNat%2^(32-n.bits.toNat)≠0 then 3 else 0
def Bz(n:gM):0<=it n:=by
 unfold it;split
 ·omega
 split<;>omega
def J9(P:V)(h0:1<=P)(h1:P<=4294967296):(4294967295*(P:G))%4294967296=((4294967296-P:V):G):=by omega
def xN(k:V)(h:k<=32):1<=2^k/\2^k<=4294967296:=⟨Nat.one_le_two_pow,by
 have:=RI (n:=2) Z h;simpa using this⟩
def CZ(k:V)(w:Y)(hk:k<=32):
  Cz 174 #[I k] w (w,N ((4294967296-2^(32-k):V):G)):=by
 have x1:(0:G)<=32-(k:G):=Z;have x2:(0:G)<=(k:G):=Z;have x3:(k:G)<=32:=Z;go_enter Tryz.func174,Tryz.ntmps174;go_wp2_with fail;go_ret;refine⟨?_,rfl⟩;have hp:=xN (32-k) Z;have:=J9 (2^(32-k)) hp.1 hp.2;rw[<-this];simp
def C0(ip k:V)(aX:ip<4294967296)(hk:k<=32):bits .andNot .u32 (ip:G) ((4294967296-2^k:V):G)=((ip%2^k:V):G):=by have hp:=xN k hk;rw[u32_andNot_nat ip _ aX Z,show 4294967295-(4294967296-2^k)=2^k-1 from by omega,Ry]
def oq(x:gM)(w:Y)(bl:x.ok):
  Cz 171 #[x.v] w (fL (it x),w):=by
 obtain⟨ip,b,lo,hi⟩:=x;obtain⟨⟨i0,i1⟩,_,_,_⟩:=bl;simp only at i0 i1;unfold gM.v
 by_cases aa:gM.bad ⟨ip,b,lo,hi⟩
 ·have HF:F (fL (it ⟨ip,b,lo,hi⟩)=.iface 105 (I 1)):=D (by unfold it;rw[z aa];rfl);simp only[gM.bad]at aa;by_cases t0:b<0
  ·exact qV053
  skip
  by_cases t1:32<b
  ·exact qV053
  skip
  by_cases t2:lo<0
  ·exact qV053
  skip
  by_cases t3:65535<hi
  ·exact qV053
  skip
  have t4:hi<lo:=Z;exact qV053
 have aq:it ⟨ip,b,lo,hi⟩=if ip.toNat%2^(32-b.toNat)≠0 then 3 else 0:=K aa
 simp only[gM.bad,not_or]at aa;obtain⟨t0,t1,t2,t3,t4⟩:=aa;obtain⟨k,rfl⟩:∃k:V,b=k:=⟨b.toNat,Z⟩;obtain⟨ip,rfl⟩:∃p:V,ip=p:=⟨ip.toNat,Z⟩;have hm:=C0 ip (32-k) Z Z;have bz:F (∀w,Cz 174 #[I k] w (w,N ((4294967296-2^(32-k):V):G))):=fun w=>CZ k w Z;generalize(4294967296-2^(32-k):V)=U2 at*
 simp only[QO]at aq;by_cases hz:ip%2^(32-k)=0
 ·have HF:F (fL (it ⟨ip,k,lo,hi⟩)=.nilIface):=D (by rw[aq,K (fun h=>h hz)];rfl);rw[hz]at hm;clear aq hz;have c0:(w.alloc (E #[N (ip:G),I k,I lo,I hi] 45)).cell? (w,0)=some (N (ip:G)):=by rw[QR _ _ _ _ _ _ zH];rfl
  exact qV050
 have HF:F (fL (it ⟨ip,k,lo,hi⟩)=.iface 105 (I 3)):=D (by rw[aq,z hz];rfl);obtain⟨U6,bu⟩:∃U6,ip%2^(32-k)=U6:=⟨_,rfl⟩;rw[bu]at hm hz;have aZ:((U6:G) !=0)=true:=by simp;omega
 clear aq bu;have c0:(w.alloc (E #[N (ip:G),I k,I lo,I hi] 45)).cell? (w,0)=some (N (ip:G)):=by rw[QR _ _ _ _ _ _ zH];rfl
 exact qV050
def BA(ip i:V)(w:Y)(aX:ip<4294967296)(hi:i<32):
  Cz 142 #[N ip,I i] w (w,Ue (decide (ip/2^(31-i)%2=1))):=by
 have x1:(0:G)<=31-(i:G):=Z;have hd:ip/2^(31-i)<=ip:=Nat.div_le_self _ _;have hb:bits .and .u32 ((ip/2^(31-i):V):G) 1=((ip/2^(31-i)%2:V):G):=by rw[show(1:G)=((1:V):G)from rfl,u32_and_nat _ _ Z Z,nat_mask1]
 have bp:bits .and .u32 ((ip:G)/2^(31-i)) 1=((ip/2^(31-i)%2:V):G):=by rw[<-hb];congr 1
 generalize ip/2^(31-i)%2=U6 at*
 clear hb hd;go_enter Tryz.func142,Tryz.ntmps142;go_wp2_with fail;go_ret;refine⟨iW ?_,rfl⟩;rw[Rp];simp
 try omega
def Mz(ip i:V)(hi:i<32):ip%2^(32-i)=ip/2^(31-i)%2*2^(31-i)+ip%2^(31-i):=by rw[show 32-i=(31-i)+1 from by omega,UX,Nat.mod_mul,Nat.add_comm,Nat.mul_comm]
def s7(x:gM)(w:Y)(bl:x.ok):
  Cz 91 #[x.v] w (I (it x),w):=by
 obtain⟨ip,b,lo,hi⟩:=x;obtain⟨⟨i0,i1⟩,_,_,_⟩:=bl;simp only at i0 i1;unfold gM.v
 by_cases aa:gM.bad ⟨ip,b,lo,hi⟩
 ·have HF:F (it ⟨ip,b,lo,hi⟩=1):=z aa;simp only[gM.bad]at aa;by_cases t0:b<0
  ·exact qV054
  skip
  by_cases t1:32<b
  ·exact qV054
  skip
  by_cases t2:lo<0
  ·exact qV054
  skip
  by_cases t3:65535<hi
  ·exact qV054
  skip
  have t4:hi<lo:=Z;exact qV054
 have aq:it ⟨ip,b,lo,hi⟩=if ip.toNat%2^(32-b.toNat)≠0 then 3 else 0:=K aa
 simp only[gM.bad,not_or]at aa;obtain⟨t0,t1,t2,t3,t4⟩:=aa;obtain⟨k,rfl⟩:∃k:V,b=k:=⟨b.toNat,Z⟩;obtain⟨ip,rfl⟩:∃p:V,ip=p:=⟨ip.toNat,Z⟩;simp only[QO]at aq;have br:=D aq;clear aq;have aX:ip<4294967296:=by omega
 go_enter Tryz.func91,Tryz.ntmps91;go_wp2_with fail
 go_loop [3] (fun iv=>∃i:V,k<=i/\i<=32/\iv=I i/\F (ip%2^(32-k)=ip%2^(32-i))) (fun iv=>32-(intOf iv).toNat)
 case atStart=>exact⟨k,nZ,Z,rfl,rfl⟩
 case round=>
  obtain⟨i,cr,bJ,rfl,hR⟩:=hrel
  by_cases ac:i<32
  ·have y1:(i:G)<32:=by omega
   have y2:(0:G)<=(i:G):=Z;have aH:=Mz ip i ac;have aG:F (∀w,Cz 142 #[N ip,I i] w (w,Ue (decide (ip/2^(31-i)%2=1)))):=fun w=>BA ip i w aX ac;have aZ:ip/2^(31-i)%2=0\/ip/2^(31-i)%2=1:=Z;rcases aZ with hz|hz
   ·rw[hz]at aG aH;have bM:F (ip%2^(32-k)=ip%2^(32-(i+1))):=D (by rw[hR.o,aH,show 32-(i+1)=31-i from by omega];omega)
    clear aH hR hz;simp only[RX,Nat.zero_ne_one,decide_false]at aG;go_wp2_with (go_at_call 142;refine(aG.o _).mono ?_;rintro e w1 ⟨rfl,rfl⟩);go_round
    case rel=>exact⟨i+1,Z,Z,OT,bM⟩
    case measure=>simp[intOf];omega
   rw[hz]at aG aH
   have HF:F (it ⟨ip,k,lo,hi⟩=3):=by show _=_;rw[br.o,z];rw[hR.o,aH];have hp:0<2^(31-i):=Nat.two_pow_pos _;omega
   clear aH hR hz;simp only[decide_true]at aG;go_wp2_with (go_at_call 142;refine(aG.o _).mono ?_;rintro e w1 ⟨rfl,rfl⟩);go_ret;exact⟨O1,OX⟩
  obtain rfl:i=32:=by omega
  have HF:F (it ⟨ip,k,lo,hi⟩=0):=D (by rw[br.o,K (fun h=>h (by rw[hR.o];simp[Nat.mod_one]))]);clear hR;exact qag
structure fm where
 arg:G
 op:G
 v:G
 m:G
 glob:J
 net:gM
def fm.row(c:fm):List X:=[I c.arg,I c.op,U c.v,U c.m,O c.glob,N c.net.ip,I c.net.bits,I c.net.lo,I c.net.hi]
def fm.val(c:fm):X:=Uf #[I c.arg,I c.op,U c.v,U c.m,O c.glob,N c.net.ip,I c.net.bits,I c.net.lo,I c.net.hi]
def fm.ok(c:fm):Us:=(Lit.int .i64 c.arg).wf=true/\(Lit.int .i64 c.op).wf=true/\(0<=c.v/\c.v<18446744073709551616)/\(0<=c.m/\c.m<18446744073709551616)/\c.glob.size<=maxLen/\c.net.ok
structure fD where
 nr:G
 conds:List fm
 kind:G
 errno:G
structure fE where
 rules:List fD
 kind:G
 errno:G
def MA(kind errno:G):X:=Uf #[I kind,I errno]
def gJ(kind errno:G):G:=if kind=1\/kind=3 then(if errno=0 then 0 else 3)else if kind=2 then(if errno<1\/255<errno then 1 else 0)else 3
def xk(k e:G):0<=gJ k e:=by
 unfold gJ;split
 ·split<;>omega
 split
 ·split<;>omega
 omega
def wY(k e:G)(w:Y):
  Cz 126 #[MA k e] w fun e' w'=>e'=Ud (fL (gJ k e))/\(w,w'):=by
 unfold MA;by_cases h1:k=1\/k=3
 ·by_cases h2:e=0
  ·have HF:F (fL (gJ k e)=.nilIface):=D (by unfold gJ;rw[z h1,z h2];rfl);subst h2;rcases h1 with rfl|rfl
   all_goals
    go_enter Tryz.func126,Tryz.ntmps126;exact qag
  ·have HF:F (fL (gJ k e)=.iface 105 (I 3)):=D (by unfold gJ;rw[z h1,K h2];rfl);rcases h1 with rfl|rfl
   all_goals
    go_enter Tryz.func126,Tryz.ntmps126;exact qag
 have k1:¬k=1:=fun h=>h1 (Q8 h);have k3:¬k=3:=fun h=>h1 (RH h);by_cases h2:k=2
 ·by_cases h3:e<1
  ·have HF:F (fL (gJ k e)=.iface 105 (I 1)):=D (by unfold gJ;rw[K h1,z h2,z (Q8 h3)];rfl);exact qV058
  by_cases h4:255<e
  ·have HF:F (fL (gJ k e)=.iface 105 (I 1)):=D (by unfold gJ;rw[K h1,z h2,z (RH h4)];rfl);exact qV058
  have HF:F (fL (gJ k e)=.nilIface):=D (by unfold gJ;rw[K h1,z h2,K (fun h=>h.elim h3 h4)];rfl);exact qV058
 have HF:F (fL (gJ k e)=.iface 105 (I 3)):=D (by unfold gJ;rw[K h1,K h2];rfl);clear h1;go_enter Tryz.func126,Tryz.ntmps126;exact qag
def wZ(k e:G)(w:Y):
  Cz 39 #[MA k e] w fun e' w'=>e'=Ud (I (gJ k e))/\(w,w'):=by
 unfold MA;by_cases h1:k=1\/k=3
 ·by_cases h2:e=0
  ·have HF:F (gJ k e=0):=D (by unfold gJ;rw[z h1,z h2]);subst h2;rcases h1 with rfl|rfl
   all_goals
    go_enter Tryz.func39,Tryz.ntmps39;exact qag
  ·have HF:F (gJ k e=3):=D (by unfold gJ;rw[z h1,K h2]);rcases h1 with rfl|rfl
   all_goals
    go_enter Tryz.func39,Tryz.ntmps39;exact qag
 have k1:¬k=1:=fun h=>h1 (Q8 h);have k3:¬k=3:=fun h=>h1 (RH h);by_cases h2:k=2
 ·by_cases h3:e<1
  ·have HF:F (gJ k e=1):=D (by unfold gJ;rw[K h1,z h2,z (Q8 h3)]);exact qV059
  by_cases h4:255<e
  ·have HF:F (gJ k e=1):=D (by unfold gJ;rw[K h1,z h2,z (RH h4)]);exact qV059
  have HF:F (gJ k e=0):=D (by unfold gJ;rw[K h1,z h2,K (fun h=>h.elim h3 h4)]);exact qV059
 have HF:F (gJ k e=3):=D (by unfold gJ;rw[K h1,K h2]);clear h1;go_enter Tryz.func39,Tryz.ntmps39;exact qag
def Oe:List (List G):=[[1,1,0,0],[1,1,0,0],[2,1,1,0],[1,0,0,0],[2,0,0,0],[2,2,0,0],[1,3,0,0],[2,2,1,0],[1,1,3,1]]
def fy(i k:V):G:=(Oe.getD i []).getD k 0
def J_(w:Y):(Instr.index 219 (Uf #[O ⟨#[49,49]⟩,O ⟨#[49,49]⟩,O ⟨#[50,49,49]⟩,O ⟨#[49]⟩,O ⟨#[50]⟩,O ⟨#[50,50]⟩,O ⟨#[49,51]⟩,O ⟨#[50,50,49]⟩,O ⟨#[49,49,51,49]⟩]) (I 0)).run Tryz.prog w=.ok (O ⟨#[49,49]⟩) w:=by kernel_rfl
def Ka(w:Y):(Instr.index 219 (Uf #[O ⟨#[49,49]⟩,O ⟨#[49,49]⟩,O ⟨#[50,49,49]⟩,O ⟨#[49]⟩,O ⟨#[50]⟩,O ⟨#[50,50]⟩,O ⟨#[49,51]⟩,O ⟨#[50,50,49]⟩,O ⟨#[49,49,51,49]⟩]) (I 1)).run Tryz.prog w=.ok (O ⟨#[49,49]⟩) w:=by kernel_rfl
def Kb(w:Y):(Instr.index 219 (Uf #[O ⟨#[49,49]⟩,O ⟨#[49,49]⟩,O ⟨#[50,49,49]⟩,O ⟨#[49]⟩,O ⟨#[50]⟩,O ⟨#[50,50]⟩,O ⟨#[49,51]⟩,O ⟨#[50,50,49]⟩,O ⟨#[49,49,51,49]⟩]) (I 2)).run Tryz.prog w=.ok (O ⟨#[50,49,49]⟩) w:=by kernel_rfl
def Kc(w:Y):(Instr.index 219 (Uf #[O ⟨#[49,49]⟩,O ⟨#[49,49]⟩,O ⟨#[50,49,49]⟩,O ⟨#[49]⟩,O ⟨#[50]⟩,O ⟨#[50,50]⟩,O ⟨#[49,51]⟩,O ⟨#[50,50,49]⟩,O ⟨#[49,49,51,49]⟩]) (I 3)).run Tryz.prog w=.ok (O ⟨#[49]⟩) w:=by kernel_rfl
def Kd(w:Y):(Instr.index 219 (Uf #[O ⟨#[49,49]⟩,O ⟨#[49,49]⟩,O ⟨#[50,49,49]⟩,O ⟨#[49]⟩,O ⟨#[50]⟩,O ⟨#[50,50]⟩,O ⟨#[49,51]⟩,O ⟨#[50,50,49]⟩,O ⟨#[49,49,51,49]⟩]) (I 4)).run Tryz.prog w=.ok (O ⟨#[50]⟩) w:=by kernel_rfl
def Ke(w:Y):(Instr.index 219 (Uf #[O ⟨#[49,49]⟩,O ⟨#[49,49]⟩,O ⟨#[50,49,49]⟩,O ⟨#[49]⟩,O ⟨#[50]⟩,O ⟨#[50,50]⟩,O ⟨#[49,51]⟩,O ⟨#[50,50,49]⟩,O ⟨#[49,49,51,49]⟩]) (I 5)).run Tryz.prog w=.ok (O ⟨#[50,50]⟩) w:=by kernel_rfl
def Kf(w:Y):(Instr.index 219 (Uf #[O ⟨#[49,49]⟩,O ⟨#[49,49]⟩,O ⟨#[50,49,49]⟩,O ⟨#[49]⟩,O ⟨#[50]⟩,O ⟨#[50,50]⟩,O ⟨#[49,51]⟩,O ⟨#[50,50,49]⟩,O ⟨#[49,49,51,49]⟩]) (I 6)).run Tryz.prog w=.ok (O ⟨#[49,51]⟩) w:=by kernel_rfl
def Kg(w:Y):(Instr.index 219 (Uf #[O ⟨#[49,49]⟩,O ⟨#[49,49]⟩,O ⟨#[50,49,49]⟩,O ⟨#[49]⟩,O ⟨#[50]⟩,O ⟨#[50,50]⟩,O ⟨#[49,51]⟩,O ⟨#[50,50,49]⟩,O ⟨#[49,49,51,49]⟩]) (I 7)).run Tryz.prog w=.ok (O ⟨#[50,50,49]⟩) w:=by kernel_rfl
def Kh(w:Y):(Instr.index 219 (Uf #[O ⟨#[49,49]⟩,O ⟨#[49,49]⟩,O ⟨#[50,49,49]⟩,O ⟨#[49]⟩,O ⟨#[50]⟩,O ⟨#[50,50]⟩,O ⟨#[49,51]⟩,O ⟨#[50,50,49]⟩,O ⟨#[49,49,51,49]⟩]) (I 8)).run Tryz.prog w=.ok (O ⟨#[49,49,51,49]⟩) w:=by kernel_rfl
def C2(i k:V)(w:Y)(hi:i<9)(hk:k<4):
  Cz 89 #[I i,I k] w (I (fy i k),w):=by
 have h1:i=0\/i=1\/i=2\/i=3\/i=4\/i=5\/i=6\/i=7\/i=8:=Z;have h2:k=0\/k=1\/k=2\/k=3:=Z;clear hi hk;rcases h1 with rfl|rfl|rfl|rfl|rfl|rfl|rfl|rfl|rfl
 ·have hx:=J_;rcases h2 with rfl|rfl|rfl|rfl
  all_goals
   go_enter SV,SJ
   go_wp2
   go_returns;exact⟨rfl,OX⟩
 ·have hx:=Ka;rcases h2 with rfl|rfl|rfl|rfl
  all_goals
   go_enter SV,SJ
   go_wp2
   go_returns;exact⟨rfl,OX⟩
 ·have hx:=Kb;rcases h2 with rfl|rfl|rfl|rfl
  all_goals
   go_enter SV,SJ
   go_wp2
   go_returns;exact⟨rfl,OX⟩
 ·have hx:=Kc;rcases h2 with rfl|rfl|rfl|rfl
  all_goals
   go_enter SV,SJ
   go_wp2
   go_returns;exact⟨rfl,OX⟩
 ·have hx:=Kd;rcases h2 with rfl|rfl|rfl|rfl
  all_goals
   go_enter SV,SJ
   go_wp2
   go_returns;exact⟨rfl,OX⟩
 ·have hx:=Ke;rcases h2 with rfl|rfl|rfl|rfl
  all_goals
   go_enter SV,SJ
   go_wp2
   go_returns;exact⟨rfl,OX⟩
 ·have hx:=Kf;rcases h2 with rfl|rfl|rfl|rfl
  all_goals
   go_enter SV,SJ
   go_wp2
   go_returns;exact⟨rfl,OX⟩
 ·have hx:=Kg;rcases h2 with rfl|rfl|rfl|rfl
  all_goals
   go_enter SV,SJ
   go_wp2
   go_returns;exact⟨rfl,OX⟩
 ·have hx:=Kh;rcases h2 with rfl|rfl|rfl|rfl
  all_goals
   go_enter SV,SJ
   go_wp2
   go_returns;exact⟨rfl,OX⟩
def mz(op:G):G:=if op=8 then 2 else if op=9 then 3 else 1
def fm.bad(nr:V)(c:fm):Us:=fy nr c.arg.toNat≠mz c.op\/(c.op≠7/\c.m≠0)\/(7<c.op/\c.v≠0)\/(c.op≠8/\c.glob.size≠0)\/(c.op≠9/\c.net≠⟨0,0,0,0⟩)
instance (nr:V) (c:fm):Decidable (c.bad nr):=by unfold fm.bad;infer_instance
def fC(nr:V)(c:fm):G:=if c.arg<0\/3<c.arg\/c.op<1\/9<c.op then 1 else if c.bad nr then 3 else if c.op=8 then gX (b_ c.glob)else if c.op=9 then it c.net else 0
def fK(nr:V):J:=[(⟨#[114,101,97,100]⟩:J),⟨#[119,114,105,116,101]⟩,⟨#[111,112,101,110]⟩,⟨#[99,108,111,115,101]⟩,⟨#[115,116,97,116]⟩,⟨#[114,101,110,97,109,101]⟩,⟨#[99,111,110,110,101,99,116]⟩,⟨#[108,105,110,107]⟩,⟨#[115,101,110,100]⟩].getD nr ⟨#[]⟩
def Ki(w:Y):(Instr.index 181 (Uf gc) (I 0)).run Tryz.prog w=.ok (Uf #[O (fK 0),I (fy 0 0),I (fy 0 1),I (fy 0 2),I (fy 0 3)]) w:=by kernel_rfl
def Kj(w:Y):(Instr.index 181 (Uf gc) (I 1)).run Tryz.prog w=.ok (Uf #[O (fK 1),I (fy 1 0),I (fy 1 1),I (fy 1 2),I (fy 1 3)]) w:=by kernel_rfl
def Kk(w:Y):(Instr.index 181 (Uf gc) (I 2)).run Tryz.prog w=.ok (Uf #[O (fK 2),I (fy 2 0),I (fy 2 1),I (fy 2 2),I (fy 2 3)]) w:=by kernel_rfl
def Kl(w:Y):(Instr.index 181 (Uf gc) (I 3)).run Tryz.prog w=.ok (Uf #[O (fK 3),I (fy 3 0),I (fy 3 1),I (fy 3 2),I (fy 3 3)]) w:=by kernel_rfl
def Km(w:Y):(Instr.index 181 (Uf gc) (I 4)).run Tryz.prog w=.ok (Uf #[O (fK 4),I (fy 4 0),I (fy 4 1),I (fy 4 2),I (fy 4 3)]) w:=by kernel_rfl
def Kn(w:Y):(Instr.index 181 (Uf gc) (I 5)).run Tryz.prog w=.ok (Uf #[O (fK 5),I (fy 5 0),I (fy 5 1),I (fy 5 2),I (fy 5 3)]) w:=by kernel_rfl
def Ko(w:Y):(Instr.index 181 (Uf gc) (I 6)).run Tryz.prog w=.ok (Uf #[O (fK 6),I (fy 6 0),I (fy 6 1),I (fy 6 2),I (fy 6 3)]) w:=by kernel_rfl
def Kp(w:Y):(Instr.index 181 (Uf gc) (I 7)).run Tryz.prog w=.ok (Uf #[O (fK 7),I (fy 7 0),I (fy 7 1),I (fy 7 2),I (fy 7 3)]) w:=by kernel_rfl
def Kq(w:Y):(Instr.index 181 (Uf gc) (I 8)).run Tryz.prog w=.ok (Uf #[O (fK 8),I (fy 8 0),I (fy 8 1),I (fy 8 2),I (fy 8 3)]) w:=by kernel_rfl
def xl(nr:V)(h:nr<9)(w:Y):(Instr.index 181 (Uf gc) (I nr)).run Tryz.prog w=.ok (Uf #[O (fK nr),I (fy nr 0),I (fy nr 1),I (fy nr 2),I (fy nr 3)]) w:=by
 have h1:nr=0\/nr=1\/nr=2\/nr=3\/nr=4\/nr=5\/nr=6\/nr=7\/nr=8:=Z;clear h;rcases h1 with rfl|rfl|rfl|rfl|rfl|rfl|rfl|rfl|rfl
 ·exact Ki w
 ·exact Kj w
 ·exact Kk w
 ·exact Kl w
 ·exact Km w
 ·exact Kn w
 ·exact Ko w
 ·exact Kp w
 exact Kq w
def BB(nr a:V)(h:a<4)(w:Y):(Instr.index 178 (Uf #[I (fy nr 0),I (fy nr 1),I (fy nr 2),I (fy nr 3)]) (I a)).run Tryz.prog w=.ok (I (fy nr a)) w:=by
 have h1:a=0\/a=1\/a=2\/a=3:=Z;have hi:(Tryz.prog.info? 3).map (fun i=>i.size)=some 1:=Z3;clear h;rcases h1 with rfl|rfl|rfl|rfl<;>simp[Instr.index,Ra Tryz.underlying178,asIntOf,go_sem]
def wg(t:J):t.toList.isEmpty=decide (t.size=0):=by rw[ByteArray.toList_eq,Rp];simp[<-ByteArray.size_data]
def xo(s:J)(a b c d:G)(w:Y):(Instr.field 180 (Uf #[O s,I a,I b,I c,I d]) 1).run Tryz.prog w=.ok (Uf #[I a,I b,I c,I d]) w:=by kernel_rfl
def Kr(n:gM)(w:Y):(binOp .neq 45 (Uf #[N n.ip,I n.bits,I n.lo,I n.hi]) (Uf #[N 0,I 0,I 0,I 0])).run Tryz.prog w=.ok (Ue (decide (n≠⟨0,0,0,0⟩))) w:=by
 obtain⟨ip,b,lo,hi⟩:=n;simp only[gM.mk.injEq,ne_eq];rw[run_neq_struct,run_equalIn_struct w 9999 _ _ _ Z3 Z3];have aU:(Tryz.prog.fieldsOf 45).toList.map (fun f=>(f.name,f.type,f.offset))=[("IP",43,0),("Bits",3,1),("Lo",3,2),("Hi",3,3)]:=by kernel_rfl
 obtain⟨f0,f1,f2,f3,hl⟩:∃f0 f1 f2 f3,(Tryz.prog.fieldsOf 45).toList=[f0,f1,f2,f3]:=by
  generalize(Tryz.prog.fieldsOf 45).toList=l at aU;have cd:l.length=4:=by have:=QJ List.length aU;simpa using this
  match l,cd with
  |[a,b,c,d],_=>exact⟨a,b,c,d,rfl⟩
 rw[hl]at aU|-;simp only[Qt,TN,Qc,RD,SR]at aU;obtain⟨⟨a0,a1,a2⟩,⟨b0,b1,b2⟩,⟨c0,c1,c2⟩,d0,d1,d2⟩:=aU
 by_cases e0:ip=0<;>by_cases e1:b=0<;>by_cases e2:lo=0<;>by_cases e3:hi=0<;>
  simp[Op.eqFields,a0,a1,a2,b0,b1,b2,c0,c1,c2,d0,d1,d2,e0,e1,e2,e3,go_sem,part,isAgg,Ra Sd,Ra Q2,run_equalIn_int _ _ _ _ _ _ _ Sd,run_equalIn_int _ _ _ _ _ _ _ Q2]
end Go.Proofs.YtmgngapkgcofnabGreatDoor
namespace Go.Proofs.YtmgngapkgcofnabGreatDoor
open Go.Lib
def jR(b:Ut):Uv:=decide (48<=b.toNat)&&decide (b.toNat<=57)
def mS(l:List Ut):V:=l.foldl (fun n b=>10*n+(b.toNat-48)) 0
def pF(l:List Ut)(b:Ut):mS (l++[b])=10*mS l+(b.toNat-48):=by simp[mS,List.foldl_append]
def C3{d:V}(h:d<10):jR (UInt8.ofNat (48+d))=true:=by
 have:(UInt8.ofNat (48+d)).toNat=48+d:=by simp;omega
 unfold jR;rw[this];simp;omega
def rX{d:V}(h:d<10):(UInt8.ofNat (48+d)).toNat=48+d:=by simp;omega
def jM{u:V}(h:u<10):decDigits u=[UInt8.ofNat (48+u)]:=by rw[decDigits,dif_pos h]
def l9{u:V}(h:¬u<10):decDigits u=decDigits (u/10)++[UInt8.ofNat (48+u%10)]:=by rw[decDigits,dif_neg h]
def jc(u:V):∀b∈decDigits u,jR b=true:=by
 induction u using Nat.strongRecOn with
 |_ u ih=>
  by_cases h:u<10
  ·rw[jM h];intro b hb;simp only[Qm]at hb;subst hb;exact C3 h
  rw[l9 h];intro b hb;rw[Qn]at hb;rcases hb with hb|hb
  ·exact ih _ Z b hb
  simp only[Qm]at hb;subst hb;exact C3 Z
def pG(u:V):mS (decDigits u)=u:=by
 induction u using Nat.strongRecOn with
 |_ u ih=>
  by_cases h:u<10
  ·rw[jM h];simp only[mS,UR,List.foldl_nil,rX h];omega
  rw[l9 h,pF,ih _ Z,rX Z];omega
def tM{a b:V}(h:decDigits a=decDigits b):a=b:=by rw[<-pG a,h,pG]
def vc(u:V):decDigits u≠[]:=by intro h;have:=decDigits_length u;have h2:=nDigits_pos u;rw[h]at this;simp at this;omega
def Ks(u:V)(r:List Ut)(h:decDigits u=48::r):r=[]/\u=0:=by
 induction u using Nat.strongRecOn generalizing r with
 |_ u ih=>
  by_cases hu:u<10
  ·rw[jM hu]at h;simp only[Qc]at h;have h2:=QJ UInt8.toNat h.1;rw[rX hu]at h2;simp at h2;exact⟨h.2.symm,h2⟩
  rw[l9 hu]at h
  cases hq:decDigits (u/10)with
  |nil=>exact absurd hq (vc _)
  |cons a t=>rw[hq]at h;simp only[Qd,Qc]at h;have:=ih (u/10) Z t (by rw[hq,h.1]);omega
def z_{b:Ut}(h:jR b=true):UInt8.ofNat (48+(b.toNat-48))=b:=by simp only[jR,Q6,RX]at h;rw[show 48+(b.toNat-48)=b.toNat from by omega];simp
def NC(l:List Ut)(hd:∀b∈l,jR b=true)(aK:l≠[])(h0:∀r,l=48::r->r=[]):l=decDigits (mS l):=by
 obtain⟨n,hn⟩:∃n,l.length=n:=⟨_,rfl⟩
 induction n using Nat.strongRecOn generalizing l with
 |_ n ih=>
  rcases TK l with rfl|⟨t,b,rfl⟩
  ·exact absurd rfl aK
  rw[TL]at*
  have hb:jR b=true:=hd b C;have bp:=hb;simp only[jR,Q6,RX]at bp;rw[pF];by_cases ht:t=[]
  ·subst ht;rw[show mS []=0 from rfl,jM Z,Nat.mul_zero,Q3,z_ hb];rfl
  have ai:t.length<n:=by rw[QI]at hn;simp at hn;omega
  have iht:=ih t.length ai t (fun x hx=>hd x O5) ht (fun r hr=>by have:=h0 (r++[b]) (by rw[hr];rfl);simp at this) rfl;have hv:mS t≠0:=by intro hz;rw[hz,jM Z]at iht;have:=h0 [b] (by rw[iht];rfl);simp at this
  rw[l9 Z,show(10*mS t+(b.toNat-48))/10=mS t from by omega,show(10*mS t+(b.toNat-48))%10=b.toNat-48 from by omega,z_ hb,<-iht]
def gH{u:V}(h:u<100000):nDigits u<=5:=by
 rcases Qk u 10 with h1|h1
 ·rw[nDigits_small h1];omega
 rw[nDigits_big Z];rcases Qk (u/10) 10 with h2|h2
 ·rw[nDigits_small h2];omega
 rw[nDigits_big Z];rcases Qk (u/10/10) 10 with h3|h3
 ·rw[nDigits_small h3];omega
 rw[nDigits_big Z];rcases Qk (u/10/10/10) 10 with h4|h4
 ·rw[nDigits_small h4];omega
 rw[nDigits_big Z,nDigits_small Z];omega
def Ip{u:V}(h:nDigits u<=5):u<100000:=by have:=lt_pow_nDigits u;have h2:=RI (n:=10) Z h;omega
def mT(l:List Ut):Option V:=if l=[]\/5<l.length\/(l.head? =some 48/\l≠[48])\/l.all jR=false then none else some (mS l)
def tN(l:List Ut)(k:V):mT l=some k↔l=decDigits k/\k<100000:=by
 unfold mT;constructor
 ·intro h;split at h
  ·cases h
  rename_i hn;simp only[not_or]at hn;obtain⟨h1,h2,h3,h4⟩:=hn;obtain rfl:=RR h;have hd:=NC l (by simpa using h4) h1 (fun r hr=>by
   subst hr;simp only[UT,RQ,ne_eq,T4]at h3;simpa using h3)
  refine⟨hd,Ip ?_⟩;rw[<-decDigits_length,<-hd];omega
 rintro⟨rfl,hk⟩;rw[K,pG];simp only[not_or];refine⟨vc k,?_,?_,?_⟩
 ·rw[decDigits_length];have:=gH hk;omega
 ·rintro⟨h1,h2⟩
  cases hq:decDigits k with
  |nil=>exact vc _ hq
  |cons a t=>rw[hq]at h1 h2;simp only[UT,QH]at h1;subst h1;obtain⟨rfl,_⟩:=Ks k t hq;exact h2 rfl
 simp only[TD,Rs];exact jc k
def jS:List Ut->List V->List Ut
 |[],[k]=>decDigits k
 |c::cs,k::ks=>decDigits k++c::jS cs ks
 |_,_=>[]
def pL:List Ut->List Ut->Option (List V)
 |[],r=>(mT r).map fun k=>[k]
 |c::cs,r=>if indexByte r c<0 then none else(mT (r.take (indexByte r c).toNat)).bind fun k=>(pL cs (r.drop ((indexByte r c).toNat+1))).map fun ks=>k::ks
def qP:∀(l:List Ut) (c:Ut),0<=indexByte l c->l=l.take (indexByte l c).toNat++c::l.drop ((indexByte l c).toNat+1)
 |[],c,h=>by simp[indexByte]at h
 |b::r,c,h=>by
  unfold indexByte at h|-
  by_cases hb:b==c
  ·simp only[hb,RN];simp only[Tx]at hb;subst hb;simp
  simp only[hb]at h|-
  by_cases h1:indexByte r c== -1
  ·simp[h1]at h
  simp only[h1]at h|-;have cm:=indexByte_ge r c;simp only[Tx]at h1;have ih:=qP r c Z;have e:(indexByte r c+1).toNat=(indexByte r c).toNat+1:=by omega
  simp only[e,R6,UQ,List.take_succ_cons,Qd,List.drop_succ_cons];rw[<-ih]
def tO:∀(a:List Ut) (c:Ut) (r:List Ut),(∀b∈a,b≠c)->indexByte (a++c::r) c=a.length
 |[],c,r,_=>by simp[indexByte]
 |x::a,c,r,h=>by
  have hx:(x==c)=false:=by simpa using h x C
  have ih:=tO a c r (fun b hb=>h b O6);simp only[Qd,indexByte,hx,R6,UQ,ih];rw[K C];simp
def MB(c:Ut)(cs a r:List Ut)(h:∀b∈a,b≠c):pL (c::cs) (a++c::r)=(mT a).bind fun k=>(pL cs r).map fun ks=>k::ks:=by
 have h1:=tO a c r h;have e:(a++c::r).drop (a.length+1)=r:=by rw[List.drop_append,T8 Z,show a.length+1-a.length=1 from by omega];rfl
 simp only[pL,h1];rw[K Z];simp only[QO,List.take_left,e]
def Kt:∀(cs:List Ut) (l:List Ut) (ks:List V),pL cs l=some ks->l=jS cs ks/\ks.length=cs.length+1/\∀k∈ks,k<100000
 |[],l,ks,h=>by simp only[pL,Qp]at h;obtain⟨k,hk,rfl⟩:=h;obtain⟨h1,h2⟩:=(tN _ _).1 hk;exact⟨h1,rfl,by simpa using h2⟩
 |c::cs,l,ks,h=>by
  simp only[pL]at h;split at h
  ·cases h
  rename_i hn;simp only[Sw,Qp]at h;obtain⟨k,hk,ks',cf,rfl⟩:=h;obtain⟨h1,h2⟩:=(tN _ _).1 hk;obtain⟨h3,h4,h5⟩:=Kt cs _ _ cf;refine⟨?_,by simp[h4],by simpa using⟨h2,h5⟩⟩;rw[jS,<-h1,<-h3];exact qP l c Z
def Hf:∀(cs:List Ut) (ks:List V),(∀c∈cs,jR c=false)->ks.length=cs.length+1->(∀k∈ks,k<100000)->pL cs (jS cs ks)=some ks
 |[],ks,_,hl,hk=>by
  match ks,hl with
  |[k],_=>simp only[jS,pL,(tN _ _).2 ⟨rfl,hk k C⟩];rfl
 |c::cs,ks,hc,hl,hk=>by
  match ks,hl with
  |k::ks,hl=>
   rw[jS,MB _ _ _ _ (fun b hb e=>by have:=jc k b hb;rw[e,hc c C]at this;cases this)]
   rw[(tN _ _).2 ⟨rfl,hk k C⟩];simp[Hf cs ks (fun x hx=>hc x O5) (by simpa using hl) (fun x hx=>hk x O5)]
def sE(cur:List Ut)(ns:List V):Option (List V):=if cur=decDigits (mS cur)/\mS cur<=70000/\ns.length<=6 then some (ns++[mS cur])else none
def kM:List Ut->List Ut->List V->Option (List V)
 |[],cur,ns=>sE cur ns
 |c::r,cur,ns=>if jR c then kM r (cur++[c]) ns else(sE cur ns).bind fun m=>kM r [] m
def s8:∀(a r cur:List Ut) (ns:List V),(∀b∈a,jR b=true)->kM (a++r) cur ns=kM r (cur++a) ns
 |[],r,cur,ns,_=>by simp
 |x::a,r,cur,ns,h=>by rw[Qd,kM,z (h x C),s8 a r _ ns (fun b hb=>h b O6)];simp
def vd(k:V)(ns:List V)(hk:k<=70000)(hn:ns.length<=6):sE (decDigits k) ns=some (ns++[k]):=by unfold sE;rw[pG,z ⟨rfl,hk,hn⟩]
def xO:∀(cs:List Ut) (ks ns:List V),(∀c∈cs,jR c=false)->ks.length=cs.length+1->(∀k∈ks,k<=70000)->ns.length+ks.length<=7->kM (jS cs ks) [] ns=some (ns++ks)
 |[],ks,ns,_,hl,hk,hn=>by
  match ks,hl with
  |[k],_=>simp only[jS];have:=s8 (decDigits k) [] [] ns (jc k);rw[Rq]at this;rw[this,Qw,kM,vd k ns (hk k C) (by simp at hn;omega)]
 |c::cs,ks,ns,hc,hl,hk,hn=>by
  match ks,hl with
  |k::ks,hl=>
   simp only[jS]
   rw[s8 _ _ _ _ (jc k),Qw,kM,K (by rw[hc c C];simp),vd k ns (hk k C) (by simp at hn;omega),RJ,
    xO cs ks (ns++[k]) (fun x hx=>hc x O5) (by simpa using hl) (fun x hx=>hk x O5) (by simp at hn|-;omega)]
   simp
def iH:List Ut:=[46,46,46,47,58,45]
def C4:∀c∈iH,jR c=false:=by decide
def kl(x:gM):List V:=[x.ip.toNat/16777216,x.ip.toNat/65536%256,x.ip.toNat/256%256,x.ip.toNat%256,x.bits.toNat,x.lo.toNat,x.hi.toNat]
def ig(x:gM):List Ut:=jS iH (kl x)
def fV(a b c d e f g:V):gM:=⟨((((a*256+b)*256+c)*256+d:V):G),e,f,g⟩
def nC{x:gM}(h:it x=0):0<=x.bits/\x.bits<=32/\0<=x.lo/\x.hi<=65535/\x.lo<=x.hi/\x.ip.toNat%2^(32-x.bits.toNat)=0:=by
 unfold it at h;split at h
 ·omega
 rename_i hb;split at h
 ·omega
 rename_i hz;simp only[gM.bad,not_or]at hb;simp only[ne_eq,T4]at hz;exact⟨Z,Z,Z,Z,Z,hz⟩
def o7{x:gM}(hx:x.ok)(h:it x=0):∀k∈kl x,k<=70000:=by obtain⟨⟨i0,i1⟩,_⟩:=hx;obtain⟨h1,h2,h3,h4,h5,_⟩:=nC h;intro k hk;simp only[kl,Qh,RK,Sa]at hk;omega
def mY{x:gM}(hx:x.ok)(h:it x=0):∃a b c d e f g:V,kl x=[a,b,c,d,e,f,g]/\a<=255/\b<=255/\c<=255/\d<=255/\x=fV a b c d e f g:=by
 obtain⟨⟨i0,i1⟩,_⟩:=hx;obtain⟨h1,h2,h3,h4,h5,_⟩:=nC h;obtain⟨ip,bits,lo,hi⟩:=x;simp only at*
 refine⟨ip.toNat/16777216,ip.toNat/65536%256,ip.toNat/256%256,ip.toNat%256,bits.toNat,lo.toNat,hi.toNat,rfl,Z,Z,Z,Z,?_⟩;simp only[fV,gM.mk.injEq];refine⟨Z,Z,Z,Z⟩
def Iq(a b c d e f g:V)(_:a<=255)(hb:b<=255)(hc:c<=255)(hd:d<=255):kl (fV a b c d e f g)=[a,b,c,d,e,f,g]:=by simp only[kl,fV,QO,Qc,SR];omega
def xq{x:gM}(hx:x.ok)(h:it x=0):pL iH (ig x)=some (kl x):=
 Hf _ _ C4 rfl (fun k hk=>by have:=o7 hx h k hk;omega)
def xP{x:gM}(hx:x.ok)(h:it x=0):kM (ig x) [] []=some (kl x):=by
 have:=xO iH (kl x) [] C4 rfl (o7 hx h) (by simp[kl]);simpa[ig]using this
def Aa{x y:gM}(hx:x.ok)(hy:y.ok)(h:it x=0)(k:it y=0)(e:ig x=ig y):x=y:=by have h1:=xq hx h;rw[e,xq hy k]at h1;obtain⟨a,b,c,d,p,q,r,e1,_,_,_,_,rfl⟩:=mY hx h;obtain⟨a',b',c',d',p',q',r',e2,_,_,_,_,rfl⟩:=mY hy k;rw[e1,e2]at h1;simp only[QH,Qc,SR]at h1;obtain⟨rfl,rfl,rfl,rfl,rfl,rfl,rfl⟩:=h1;rfl
def iA(l:List Ut):Option gM->Us
 |some x=>x.ok/\it x=0/\l=ig x
 |none=>∀x:gM,x.ok->it x=0->l≠ig x
def im(ip port:V):List Ut:=[2,0,UInt8.ofNat (port/256),UInt8.ofNat (port%256),UInt8.ofNat (ip/16777216),UInt8.ofNat (ip/65536%256),UInt8.ofNat (ip/256%256),UInt8.ofNat (ip%256),0,0,0,0,0,0,0,0]
end Go.Proofs.YtmgngapkgcofnabGreatDoor
namespace Go.Proofs.YtmgngapkgcofnabGreatDoor
open Go.RowKit Go.PlainAid
def xr(s:J)(k:V)(h:k<s.data.toList.length):bt s k=(s.data.toList[k].toNat:G):=by
 have:k<s.size:=by simpa using h
 unfold bt;rw[dif_pos this];rfl
def rY(s:J)(k:V)(h:k<s.data.toList.length):s.data.toList.take (k+1)=s.data.toList.take k++[s.data.toList[k]]:=by rw[Rw,Qa h];rfl
def xQ(s:J)(k:V)(h:k<s.data.toList.length):jR s.data.toList[k]=true↔48<=bt s k/\bt s k<=57:=by rw[xr s k h];unfold jR;simp;omega
def MC(s:J)(k:V)(h:k<s.data.toList.length)(hd:48<=bt s k):(mS (s.data.toList.take (k+1)):G)=10*(mS (s.data.toList.take k):G)+(bt s k-48):=by
 have hb:=xr s k h;rw[rY s k h,pF,hb];rw[hb]at hd;push_cast;omega
def MD(l:List Ut)(hd:∀b∈l,jR b=true):mS l<10^l.length:=by
 obtain⟨n,hn⟩:∃n,l.length=n:=⟨_,rfl⟩
 induction n generalizing l with
 |zero=>obtain rfl:=Qg hn;simp[mS]
 |succ n ih=>
  rcases TK l with rfl|⟨t,b,rfl⟩
  ·simp at hn
  rw[TL]at*
  have ht:t.length=n:=by rw[QI]at hn;simp at hn;omega
  have:=ih t (fun x hx=>hd x O5) ht;have hb:=hd b C;simp only[jR,Q6,RX]at hb;rw[pF,hn,UX];rw[ht]at this;omega
def ve(t:J):t.toList.isEmpty=decide (t.size=0):=by rw[ByteArray.toList_eq,Rp];simp[<-ByteArray.size_data]
def np(l:List Ut)(e:Uw):Us:=match mT l with
 |some k=>e=Ud (Uh #[I k,Ue true])
 |none=>e=Ud (Uh #[I 0,Ue false])
def mA(s:J)(w:Y):
  Cz 208 #[O s] w fun e w'=>np s.data.toList e/\w=w':=by
 have an:s.data.toList.length=s.size:=C;have hb:=get_bt s;by_cases h5:5<s.size
 ·have HF:F (mT s.data.toList=none):=D (by unfold mT;rw[z (RH (Q8 Z))]);have x1:(5:G)<(s.size:G):=Z;have y1:s.toList.isEmpty=false:=by rw[ve];exact QP Z
  clear h5 an hb;go_enter Tryz.func208,Tryz.ntmps208;exact qam
 ·have x1:¬(5:G)<(s.size:G):=by omega
  by_cases h0:s.size=0
  ·have HF:F (mT s.data.toList=none):=D (by unfold mT;rw[z (Q8 (Qg Z))]);have y1:s.toList.isEmpty=true:=by rw[ve];exact QY h0
   clear h5 an hb h0;go_enter Tryz.func208,Tryz.ntmps208;exact qam
  ·have y1:s.toList.isEmpty=false:=by rw[ve];exact QP h0
   have hp:0<s.size:=Z;have aV:0<s.data.toList.length:=Z;have a6:=xr s 0 aV;have al:∃r,s.data.toList=s.data.toList[0]::r:=⟨s.data.toList.tail,by rw[List.getElem_zero];exact(List.cons_head_tail _).symm⟩;have aS:s.toList=s.data.toList:=ByteArray.toList_eq s;by_cases hz:bt s 0=48/\s.data.toList≠[48]
   ·have HF:F (mT s.data.toList=none):=by
     have hh:s.data.toList.head? =some 48:=by
      obtain⟨r,hr⟩:=al;rw[hr,UT];have h1:=hz.1;rw[a6]at h1
      congr 1
      exact US.1 (by show _=48;omega)
     show _=_;unfold mT;exact z (RH (RH (Q8 ⟨hh,hz.2⟩)))
    have z1:=hz.1;have z2:(s.toList==[48])=false:=by rw[aS];simpa using hz.2
    clear h5 an h0 aV a6 al aS hz;go_enter Tryz.func208,Tryz.ntmps208;exact qam
   ·have HN:F (∀b,mT s.data.toList=b↔(if s.data.toList.all jR=false then none else some (mS s.data.toList))=b):=fun b=>by
     unfold mT;have e:(s.data.toList=[]\/5<s.data.toList.length\/(s.data.toList.head? =some 48/\s.data.toList≠[48])\/s.data.toList.all jR=false)↔s.data.toList.all jR=false:=by
      refine⟨fun h=>?_,fun h=>RH (RH (RH h))⟩;rcases h with h|h|h|h
      ·rw[h]at aV;simp at aV
      ·omega
      ·exfalso;refine hz ⟨?_,h.2⟩;obtain⟨r,hr⟩:=al;have h1:=h.1;rw[hr,UT]at h1;rw[a6,RR h1];rfl
      exact h
     simp only[e]
    have HZ:F (bt s 0=48->(s.toList==[48])=false->False):=fun h1 h2=>hz ⟨h1,by rw[aS]at h2;simpa using h2⟩;have H5:F (s.size<=5):=by show s.size<=5;omega
    clear hz al aS a6 aV h5 h0;go_enter Tryz.func208,Tryz.ntmps208;go_wp2_with fail
    all_goals first
     |(exfalso;rename_i q1 q2;exact HZ.o q1 (by simpa using q2))
     |skip
    all_goals
     go_loop [4,24] (fun nv iv=>∃k:V,k<=s.size/\iv=I k/\nv=I (mS (s.data.toList.take k))/\F (∀b∈s.data.toList.take k,jR b=true)) (fun _ iv=>s.size-(intOf iv).toNat)
     case atStart=>exact⟨0,QQ _,rfl,rfl,fun b hb=>by simp at hb⟩
     case round=>
      obtain⟨k,hk,rfl,rfl,hD⟩:=hrel
      by_cases ac:k<s.size
      ·have am:k<s.data.toList.length:=by omega
       have i1:(k:G)<(s.size:G):=Z;have i2:(0:G)<=(k:G):=Z;have ae:=xQ s k am;by_cases hd:48<=bt s k/\bt s k<=57
       ·have hv:=MC s k am hd.1;have b8:=MD _ hD.o;have ce:10^(s.data.toList.take k).length<=10^4:=RI Z (by rw[Q1];have:=H5.o;omega);have bj:F (∀b∈s.data.toList.take (k+1),jR b=true):=by exact qV0511
        have d1:¬bt s k<48:=Z;have d2:¬57<bt s k:=Z;generalize mS (s.data.toList.take k)=Uo at*
        have hV:(Uo:G)<10000:=Z;have HV:=D hv;clear hv b8 ce ae am;go_wp2_with fail;go_round
        case rel=>exact⟨k+1,Z,OT,by rw[HV.o];try go_num,bj⟩
        case measure=>simp[intOf];omega
       have HF:F (mT s.data.toList=none):=(HN.o _).2 (by rw[z];rw[T3];intro h;rw[Rs]at h;exact hd (ae.1 (h _ (RV am))));clear ae am;have az:bt s k<48\/57<bt s k:=by omega
       clear hd;rcases az with hd|hd
       ·exact qam
       exact qam
      obtain rfl:k=s.size:=by omega
      have aM:s.data.toList.take s.size=s.data.toList:=by rw[<-an];exact RW
      rw[aM]at hD;have HF:F (mT s.data.toList=some (mS s.data.toList)):=(HN.o _).2 (K (by rw[TD,Rs];exact hD.o));rw[aM]
      exact qam
def qc:∀(k n:V),n<10^(k+1)->Lib.nDigits n<=k+1
 |0,n,h=>by rw[Lib.nDigits_small O9];omega
 |k+1,n,h=>by
  by_cases hn:n<10
  ·rw[Lib.nDigits_small hn];omega
  rw[Lib.nDigits_big hn];have:=qc k (n/10) (by rw[UX]at h;omega);omega
def ij(n:V)(w:Y)(hn:n<18446744073709551616):
  Cz 67 #[U n] w (O ⟨(Lib.decDigits n).toArray⟩,w):=by
 have bX:=D hn;go_enter Tryz.func67,Tryz.ntmps67;go_wp2_with fail;go_loopw [0,3] (fun nv sv wr=>∃(m:V) (l:List Ut),nv=U m/\sv=O ⟨l.toArray⟩/\m<=n/\F (Lib.decDigits n=Lib.decDigits m++l)/\F (w,wr)) (fun nv _ _=>(intOf nv).toNat)
 case atStart=>exact⟨n,[],rfl,rfl,nZ,by show _=_;simp,bR⟩
 case round=>
  obtain⟨m,l,rfl,rfl,hm,HD,HB⟩:=hrel;have HN:F (m<18446744073709551616):=by show _<_;omega
  have bP:F (m/10<=n):=by show _<=_;omega
  clear hn hm;have b5:(convert 96 9 (M (wr,0) 1 1)).run Tryz.prog (wr.alloc (E #[Ui (48+(m:G)%10)] 5))=.ok (O ⟨#[UInt8.ofNat (48+m%10)]⟩) (wr.alloc (E #[Ui (48+(m:G)%10)] 5)):=by
   refine run_convert_bytes_back (wr.alloc (E #[Ui (48+(m:G)%10)] 5)) 96 9 5 ⟨wr.heap.size,0,none⟩ 1 [UInt8.ofNat (48+m%10)] Qo Q9 Qy ?_;intro j hj;obtain rfl:j=0:=by simp at hj;exact hj
   rw[show(⟨wr.heap.size,0,none⟩:Addr).add 0=⟨wr.heap.size,0,none⟩from rfl,QR _ _ _ _ _ _ zH];have:=rX (d:=m%10) Z;simp only[RZ,this];simp
  have bB:F (⟨#[UInt8.ofNat (48+m%10)]⟩++⟨l.toArray⟩=(⟨(UInt8.ofNat (48+m%10)::l).toArray⟩:J)):=by show _=_;apply ByteArray.ext;simp
  have bE:F (w (wr.alloc (E #[Ui (48+(m:G)%10)] 5))):=HB.o.alloc HB.o.size _;have bb:(1+l.length)<=30:=by have h1:=QJ List.length HD.o;rw[QI,Lib.decDigits_length]at h1;have h2:=qc 19 n (by have:=bX.o;omega);omega
  have bQ:¬9223372036854775807<1+l.length:=Z;by_cases hm:m<10
  ·have hz:(m:G)/10=0:=by omega
   have HF:F (Lib.decDigits n=UInt8.ofNat (48+m%10)::l):=by show _=_;rw[HD.o,jM hm,Nat.mod_eq_of_lt hm];rfl
   clear hm bb;generalize UInt8.ofNat (48+m%10)=c at*
   go_wp2_with fail;go_returns;exact⟨by rw[HF.o,bB.o];rfl,bE.o⟩
  have hz:¬(m:G)/10=0:=by omega
  have ck:IntKind.u64.wrap ((m:G)/10)=(m:G)/10:=IntWalk.u64_in _ (by have:=HN.o;omega);have HF:F (Lib.decDigits n=Lib.decDigits (m/10)++(UInt8.ofNat (48+m%10)::l)):=by show _=_;rw[HD.o,l9 hm];simp
  have bW:F (m/10<m):=by show _<_;omega
  clear hm bb;generalize UInt8.ofNat (48+m%10)=c at*
  go_wp2_with fail;go_roundw
  case rel=>exact⟨m/10,_,OT,by rw[bB.o],bP.o,HF,bE⟩
  case measure=>have:=bW.o;simp[intOf];omega
def Ku(l:List Ut)(x:V)(ok:Uv):Us:=(ok=true->l=Lib.decDigits x)/\∀k,k<18446744073709551616->l=Lib.decDigits k->x=k/\ok=true
def BC(l:List Ut)(e:Uw):Us:=∃(x:V) (ok:Uv),e=Ud (Uh #[U (x:V),Ue ok])/\x<18446744073709551616/\Ku l x ok
def Hg{l:List Ut}(h:∀k,k<18446744073709551616->l≠Lib.decDigits k):Ku l 0 false:=⟨fun h=>(by cases h),fun k hk e=>absurd e (h k hk)⟩
def ND(Uo:V)(d:G)(h0:48<=d)(h1:d<=57)(U1 N':V)(hN:U1=Uo%18446744073709551616)(ci:N'=(10*Uo+(d.toNat-48))%18446744073709551616):IntKind.u64.wrap (IntKind.u64.wrap ((U1:G)*10)+(d-48))=(N':G):=by simp only[IntKind.wrap_u64];omega
def mK(s:J)(w:Y):
  Cz 62 #[O s] w fun e w'=>BC s.data.toList e/\(w,w'):=by
 have an:s.data.toList.length=s.size:=C;have hb:=get_bt s;by_cases bi:20<s.size
 ·have HF:F (Ku s.data.toList 0 false):=Hg (fun k hk e=>by have h1:=QJ List.length e;rw[Lib.decDigits_length]at h1;have h2:=qc 19 k Z;omega);have x1:(20:G)<(s.size:G):=Z;clear bi an hb;go_enter Tryz.func62,Tryz.ntmps62;exact qV0512
 have x1:¬(20:G)<(s.size:G):=by omega
 have cq:=D bi;clear bi;go_enter Tryz.func62,Tryz.ntmps62;go_wp2_with fail
 go_loop [4,5] (fun nv iv=>∃k U1:V,k<=s.size/\iv=I k/\nv=U U1/\F (U1=mS (s.data.toList.take k)%18446744073709551616)/\F (∀b∈s.data.toList.take k,jR b=true)) (fun _ iv=>s.size-(intOf iv).toNat)
 case atStart=>exact⟨0,0,QQ _,rfl,rfl,rfl,fun b hb=>by simp at hb⟩
 case round=>
  obtain⟨k,U1,hk,rfl,rfl,HN,hD⟩:=hrel
  by_cases ac:k<s.size
  ·have am:k<s.data.toList.length:=by omega
   have i1:(k:G)<(s.size:G):=Z;have i2:(0:G)<=(k:G):=Z;have ae:=xQ s k am;by_cases hd:48<=bt s k/\bt s k<=57
   ·have bj:F (∀b∈s.data.toList.take (k+1),jR b=true):=by exact qV0511
    have hv:mS (s.data.toList.take (k+1))=10*mS (s.data.toList.take k)+((bt s k).toNat-48):=by rw[rY s k am,pF,xr s k am,QO]
    obtain⟨N',bq⟩:∃N',F (N'=mS (s.data.toList.take (k+1))%18446744073709551616):=⟨_,rfl⟩
    have ao:=ND _ (bt s k) hd.1 hd.2 U1 N' HN.o (by rw[bq.o,hv]);have d1:¬bt s k<48:=Z;have d2:¬57<bt s k:=Z;have d3:(bt s k-48)%256=bt s k-48:=Z;clear hv ae am hd;go_wp2_with fail;go_round
    case rel=>exact⟨k+1,N',Z,OT,by first|rfl|rw[ao],bq,bj⟩
    case measure=>simp[intOf];omega
   have HF:F (Ku s.data.toList 0 false):=Hg (fun j _ e=>by have h1:jR s.data.toList[k]=true:=jc j _ (by rw[<-e];exact RV am);exact hd (ae.1 h1));clear ae am;have az:bt s k<48\/57<bt s k:=by omega
   clear hd;rcases az with hd|hd
   ·exact qV0512
   exact qV0512
  obtain rfl:k=s.size:=by omega
  have aM:s.data.toList.take s.size=s.data.toList:=by rw[<-an];exact RW
  rw[aM]at HN;have bH:F (U1<18446744073709551616):=by show _<_;have:=HN.o;omega
  have bN:F (∀w,Cz 67 #[U U1] w (O ⟨(Lib.decDigits U1).toArray⟩,w)):=fun w=>ij U1 w bH.o;have aS:s.toList=s.data.toList:=ByteArray.toList_eq s;clear aM an;go_wp2_with (go_at_call 67;refine zc ((bN.o _).mono ?_);rintro e w1 ⟨rfl,aN⟩);go_returns;refine⟨⟨U1,Lib.decDigits U1==s.data.toList,rfl,bH.o,fun h=>?_,fun j hj e=>?_⟩,aN⟩
  ·simp only[Tx]at h;exact h.symm
  have ca:U1=j:=by have h1:=HN.o;rw[e,pG]at h1;omega
  subst ca;exact⟨rfl,by rw[e];simp⟩
end Go.Proofs.YtmgngapkgcofnabGreatDoor
namespace Go.Proofs
open Go.RowKit Go.Lib Go.Sort
def Tryz.laysB_ren:Go.Shelf.Ren:=⟨fun|166=>80|169=>84|167=>176|240=>134|276=>175|n=>n,fun|0=>0|3=>3|4=>4|5=>5|9=>9|20=>20|37=>96|70=>173|72=>175|75=>34|80=>184|164=>277|127=>235|n=>n,fun n=>n⟩
def Tryz.laysB:Lays.n166 Tryz.prog Tryz.laysB_ren:={
 mixed:=by kernel_rfl
 f166:=Tryz.func80.trans (QJ some Z3)
 f240:=Tryz.func134.trans (QJ some Z3)
 f276:=Tryz.func175.trans (QJ some Z3)
 t0:=Rt
 a0:=Si
 z0:=SY
 v0:=Rz
 t3:=Q2
 a3:=SW
 z3:=SK
 v3:=Rb
 t4:=Ru
 a4:=Sj
 z4:=SZ
 v4:=R3
 t9:=Qy
 a9:=SL
 z9:=R_
 v9:=Rj
 t20:=Sn
 a20:=Tt
 z20:=Td
 v20:=Sr
 t37:=Qo
 a37:=Ss
 z37:=Sm
 v37:=SQ
 t70:=S6
 a70:=UD
 z70:=Tu
 v70:=TE
 t72:=S7
 a72:=UE
 z72:=Tv
 v72:=TF
 t75:=TA
 a75:=Tryz.isAgg34
 z75:=Tryz.sizeOf34
 v75:=UP
 t164:=Tq
 a164:=Tryz.isAgg277
 z164:=Uk
 v164:=T6}
def Tryz.laysC:Lays.n167 Tryz.prog Tryz.laysB_ren:={
 mixed:=by kernel_rfl
 f167:=Tryz.func176.trans (QJ some Z3)
 f240:=Tryz.func134.trans (QJ some Z3)
 f276:=Tryz.func175.trans (QJ some Z3)
 t0:=Rt
 a0:=Si
 z0:=SY
 v0:=Rz
 t4:=Ru
 a4:=Sj
 z4:=SZ
 v4:=R3
 t5:=Q9
 a5:=SN
 z5:=SD
 v5:=Rk
 t9:=Qy
 a9:=SL
 z9:=R_
 v9:=Rj
 t20:=Sn
 a20:=Tt
 z20:=Td
 v20:=Sr
 t37:=Qo
 a37:=Ss
 z37:=Sm
 v37:=SQ
 t70:=S6
 a70:=UD
 z70:=Tu
 v70:=TE
 t72:=S7
 a72:=UE
 z72:=Tv
 v72:=TF
 t75:=TA
 a75:=Tryz.isAgg34
 z75:=Tryz.sizeOf34
 v75:=UP
 t164:=Tq
 a164:=Tryz.isAgg277
 z164:=Uk
 v164:=T6}
def Tryz.extraC:Builder.Extra Tryz.prog Tryz.laysB_ren:={
 sizeBuilder:=by kernel_rfl
 liesBuilder:=by kernel_rfl
 t5:=Q9
 a5:=SN
 z5:=SD
 v5:=Rk
 infoByte:=by kernel_rfl
 cellsByte:=by kernel_rfl
 sizeByte:=by kernel_rfl
 neB5:=by decide}
def Tryz.ws_k(B b:V)(bs:List X)(s:J)(w:Y)(h:Lib.IsBuilderF 175 5 B b bs w)(ai:bs.length+s.size<=140737488355328)(aT:B<=w.heap.size):
  Cz 80 #[Ug (b,0),O s] w fun e w'=>e=Ud (Uh #[I s.size,.nilIface])/\(Lib.BuilderAtF 175 5 B b (Ug (b,0)) (bs++Lib.strCells s) w'/\Below B w w'/\Lib.OthersKept 5 (some b) w w'):=
 Any.Builder_WriteString_k Tryz.laysB Tryz.extraC B b bs s w h ai aT
def Tryz.wb_k(B b:V)(bs:List X)(c:G)(w:Y)(h:Lib.IsBuilderF 175 5 B b bs w)(ai:bs.length+1<=140737488355328)(aT:B<=w.heap.size):
  Cz 176 #[Ug (b,0),Ui c] w fun e w'=>e=Ud .nilIface/\(Lib.BuilderAtF 175 5 B b (Ug (b,0)) (bs++[Ui c]) w'/\Below B w w'/\Lib.OthersKept 5 (some b) w w'):=
 Any.Builder_WriteByte_k Tryz.laysC Tryz.extraC B b bs c w h ai aT
def Tryz.str_k(B b:V)(l:List Ut)(w:Y)(h:Lib.IsBuilderF 175 5 B b (Lib.byteCells l) w)(aT:B<=w.heap.size):
  Cz 84 #[Ug (b,0)] w fun e w'=>e=Ud (O ⟨l.toArray⟩)/\(Lib.IsBuilderF 175 5 B b (Lib.byteCells l) w'/\Below B w w'/\Lib.OthersKept 5 (some b) w w'):=
 Tryz.Builder_String_any_k B b l w h aT
def Tryz.itoa_any(n:V)(hn:n<=9223372036854775807)(w:Y)(aj:Lib.TabIs Tryz.prog w "internal/strconv.uint64pow10" .u64 Lib.pow10Tab):
  Cz 120 #[I n] w (O ⟨(Lib.decDigits n).toArray⟩,w):=
 (Tryz.strconv_Itoa n Z Z w aj).mono fun e w' ⟨h,k,os,hw⟩=>by refine⟨?_,by subst hw;exact⟨rfl,rfl,rfl,by simp[grow,World.drewN],fun j hj=>by simp[grow,World.drewN,Array.getElem?_append,hj]⟩⟩;rw[h];unfold Lib.itoa;rw[K Z];rfl
def Tryz.index_any(s:J)(c:Ut)(w:Y):
  Cz 194 #[O s,Ui (c.toNat:G)] w (w,I (Lib.indexByte s.data.toList c)):=
 (Tryz.strings_IndexByte s (c.toNat:G) w).mono fun _ _ h=>by refine⟨?_,h.2.symm⟩;rw[h.1,QO];simp
end Go.Proofs
namespace Go.Proofs
open Go.RowKit Go.Lib Go.Sort
def Tryz.repeat_any(s:J)(c:V)(w:Y)(hc:c<=9223372036854775807)(ai:s.size*c<=140737488355328):
  Cz 149 #[O s,I c] w (O ⟨(Lib.repeatL s.data.toList c).toArray⟩,w):=
 Tryz.strings_Repeat s c w hc ai
end Go.Proofs
namespace Go.Proofs.YtmgngapkgcofnabGreatDoor
open Go.RowKit Go.Lib Go.Sort
def zp(w w':Y)(k:V)(os:Array Obj)(h:w'=grow (w.drewN k) os):w w':=by subst h;exact⟨rfl,rfl,rfl,by simp[grow,World.drewN],fun j hj=>by simp[grow,World.drewN,Array.getElem?_append,hj]⟩
def OC(w:Y)(o:Obj)(dk:Array Ut)(k:V):∃os,(putRow (fun(b:Ut)=>Value.int .u8 (b.toNat:G)) (w.alloc o) w.heap.size 0 dk).drewN k=grow (w.drewN k) os:=by rw[alloc_eq_grow];obtain⟨os',_,e⟩:=putRow_grow_new (fun(b:Ut)=>Value.int .u8 (b.toNat:G)) w #[o] w.heap.size 0 dk nZ;exact⟨os',by rw[e];rfl⟩
def Fp(u:V)(ah:u<18446744073709551616)(w:Y)(aj:Lib.TabIs Tryz.prog w "internal/strconv.uint64pow10" .u64 Lib.pow10Tab):
  Cz 197 #[U u,I 10] w (O ⟨(Lib.decDigits u).toArray⟩,w):=by
 by_cases hs:u<100
 ·go_enter Tryz.func197,Tryz.ntmps197;go_wp2_with (go_at_call 223;refine cargs C ((Tryz.internal_strconv_small u hs _).mono ?_);rintro e w' ⟨rfl,rfl⟩);go_ret;exact⟨rfl,bR⟩
 have bI:1<=u:=by omega
 have bG:Lib.nDigits u<=20:=by have:=Lib.numDigits_eq u bI ah;split at this<;>omega
 have bx:Tryz.prog.arrayLen 331=24:=by simp[Program.arrayLen,Tr]
 have bU:∀W,(Instr.sliceAt 331 (Ug (w,0)) none (some (I (Lib.nDigits u:G))) none).run Tryz.prog W=.ok (M (w,0) (Lib.nDigits u) 24) W:=fun W=>by
  rw[run_sliceAt_array_h W 331 ⟨w.heap.size,0,none⟩ (by simp[Program.arrayLen,Program.elem,Tr]) .i64 (Lib.nDigits u:G) Z (by rw[bx];omega)]
  go_simp
 have bf:=Lib.holds_zero0 w 331 (Lib.nDigits u) Z;have aQ:=Tryz.internal_strconv_formatBase10 w.heap.size 0 24 u (Array.replicate (Lib.nDigits u) 0) (w.alloc (E Lib.zeros24 331)) bf (by rw[TX];exact Lib.lt_pow_nDigits u) ah (by rw[TX];omega);rw[TX]at aQ;have bY:=D bf;clear bf bx;go_enter Tryz.func197,Tryz.ntmps197
 go_wp2_with (first
  |(go_at_call 224;refine cargs C ((Tryz.internal_strconv_numDigits u bI ah _ (Lib.tabIs_alloc aj _)).mono ?_);rintro e w' ⟨rfl,rfl⟩))
 go_at_call 225
 refine cargs C (aQ.mono ?_);rintro e w' ⟨rfl,k,v',dk,rfl,hF⟩;have b5:(convert 96 9 (M (w,0) (Lib.nDigits u) 24)).run Tryz.prog ((putRow (fun(b:Ut)=>Value.int .u8 (b.toNat:G)) (w.alloc (E Lib.zeros24 331)) w.heap.size 0 dk).drewN k)=.ok (O ⟨(Lib.decDigits u).toArray⟩) ((putRow (fun(b:Ut)=>Value.int .u8 (b.toNat:G)) (w.alloc (E Lib.zeros24 331)) w.heap.size 0 dk).drewN k):=by
  have h:=run_convert_bytes_back (P:=Tryz.prog) ((putRow (fun(b:Ut)=>Value.int .u8 (b.toNat:G)) (w.alloc (E Lib.zeros24 331)) w.heap.size 0 dk).drewN k) 96 9 5 ⟨w.heap.size,0,none⟩ 24 (Lib.decDigits u) Qo Q9 Qy (fun j hj=>by rw[Lib.row_is_numeral hF j hj,Lib.add_plain,World.cell?_drewN];exact cell?_putRow (fun(b:Ut)=>Value.int .u8 (b.toNat:G)) _ w.heap.size 0 _ dk bY.o (by rw[hF.size,TX]) j (by rw[hF.size];rw[Lib.decDigits_length]at hj;exact hj));rw[Lib.decDigits_length]at h;exact h
 go_wp2
 go_ret;obtain⟨os,eo⟩:=OC w (E Lib.zeros24 331) dk k;exact⟨rfl,zp _ _ k os eo⟩
def ri(u:V)(ah:u<18446744073709551616)(w:Y)(aj:Lib.TabIs Tryz.prog w "internal/strconv.uint64pow10" .u64 Lib.pow10Tab):
  Cz 162 #[U u,I 10] w (O ⟨(Lib.decDigits u).toArray⟩,w):=by
 go_enter Tryz.func162,Tryz.ntmps162;go_wp2_with (go_at_call 197;refine cargs C ((Fp u ah _ aj).mono ?_);rintro e w1 ⟨rfl,aN⟩);go_ret;exact⟨rfl,aN⟩
def sF(u:V)(ah:u<18446744073709551616)(w:Y)(aj:Lib.TabIs Tryz.prog w "internal/strconv.uint64pow10" .u64 Lib.pow10Tab):
  Cz 135 #[U u] w (O ⟨(Lib.decDigits u).toArray⟩,w):=by
 go_enter Tryz.func135,Tryz.ntmps135;go_wp2_with (go_at_call 162;refine cargs C ((ri u ah _ aj).mono ?_);rintro e w1 ⟨rfl,aN⟩);go_ret;exact⟨rfl,aN⟩
end Go.Proofs.YtmgngapkgcofnabGreatDoor
namespace Go.Proofs.YtmgngapkgcofnabGreatDoor
open Go.RowKit Go.PlainAid
def kZ{s:J}{i:V}(h:i<s.size):(b_ s).drop i=bt s i::(b_ s).drop (i+1):=by
 rw[RP (by rw[fp];exact h)]
 congr 1
 simp[b_,bt,h];rfl
def mZ{s:J}{i:V}(h:s.size<=i):(b_ s).drop i=[]:=T8 (by rw[fp];exact h)
def oI(p:J)(at_:V):G:=match jC ((b_ p).drop (at_+1))with
 |some (_,r)=>(p.size:G)-r.length
 |none=> -1
def xR(p:J):Option (List G)->G
 |some r=>(p.size:G)-r.length
 |none=> -1
def C7(p:J)(k:V):oI p k=xR p ((jC ((b_ p).drop (k+1))).map (·.2)):=by
 unfold oI xR;cases jC ((b_ p).drop (k+1))<;>rfl
def C8(p:J)(k:V):∃st,(st=k+1\/st=k+2)/\(st=k+2->k+1<p.size/\bt p (k+1)=33)/\(st=k+1->k+1<p.size->bt p (k+1)≠33)/\
  (fJ false false ((b_ p).drop st) (fun _=>false)).map (·.2)=(jC ((b_ p).drop (k+1))).map (·.2):=by
 by_cases h:k+1<p.size
 ·by_cases ar:bt p (k+1)=33
  ·refine⟨k+2,.inr rfl,fun _=>⟨h,ar⟩,fun e=>by omega,?_⟩;rw[kZ h,ar];simp only[jC,Ul];rw[qZ false true _ false _ _ _ nZ];rfl
  refine⟨k+1,.inl rfl,fun e=>by omega,fun _ _=>ar,?_⟩;unfold jC;split
  ·rename_i e;rw[kZ h]at e;simp at e;exact(ar e.1).elim
  simp only[Ul];rfl
 refine⟨k+1,.inl rfl,fun e=>by omega,fun _ e=>(h e).elim,?_⟩;rw[mZ Z];rfl
def BD(p:J)(k:V)(w:Y)(hp:p.size<=4096)(hk:k<p.size):
  Cz 181 #[O p,I k] w (w,I (oI p k)):=by
 have HE:=D (C7 p k);obtain⟨st,s0,s1,s2,ao⟩:=C8 p k;have HS:=D ao;clear ao;have gx:=get_bt p;generalize oI p k=RES at*
 go_enter Tryz.func181,Tryz.ntmps181;go_upto_region 2 with fail;go_cut [19] (fun v w'=>v=Ue (decide (st=k+2))/\w=w')
 case first=>
  by_cases h:k+1<p.size
  ·have h':(k:G)+1<(p.size:G):=by omega
   have h2:(0:G)<=(k:G)+1:=Z;rcases s0 with rfl|rfl
   ·have h3:=s2 rfl h;have h4:(bt p (k+1)==33)=false:=by simpa using h3
    have e:decide (k+1=k+2)=false:=C;clear s1 s2 h3;go_wp2_with fail
    go_meet
    exact⟨by rw[e],rfl⟩
   have h3:=(s1 rfl).2;have e:decide (k+2=k+2)=true:=by simp
   clear s1 s2;go_wp2_with fail
   go_meet
   exact⟨by rw[e],rfl⟩
  have h':¬(k:G)+1<(p.size:G):=by omega
  have e:st=k+1:=by rcases s0 with h1|h1;exact h1;exact(h (s1 h1).1).elim
  have e:decide (st=k+2)=false:=by simp;omega
  clear s0 s1 s2;go_wp2_with fail
  go_meet
  exact⟨by rw[e],rfl⟩
 case rest=>
 obtain⟨rfl,rfl⟩:=hcut
 go_upto_if 19 with fail
 go_cut [5] (fun v w'=>v=I st/\w=w')
 case first=>
  rcases s0 with rfl|rfl
  ·have e:decide (k+1=k+2)=false:=by simp
   rw[e];clear s1 s2
   go_wp2_with fail
   go_meet
   exact⟨OT,rfl⟩
  have e:decide (k+2=k+2)=true:=by simp
  rw[e];clear s1 s2
  go_wp2_with fail
  go_meet
  exact⟨OT,rfl⟩
 case rest=>
 obtain⟨rfl,rfl⟩:=hcut;have ao:st<=p.size:=by rcases s0 with h|h;omega;have:=(s1 h).1;omega
 clear s0 s1 s2;go_wp2_with fail
 go_loop [5,6] (fun iv nv=>∃i n:V,iv=I i/\nv=I n/\i<=p.size/\n<=i/\F (RES=xR p ((fJ false (decide (0<n)) ((b_ p).drop i) (fun _=>false)).map (·.2)))) (fun iv _=>p.size-(intOf iv).toNat)
 case atStart=>exact⟨st,0,rfl,rfl,ao,QQ _,by show _=_;rw[HE.o,<-HS.o];rfl⟩
 case round=>
  obtain⟨i,n,rfl,rfl,hi,hn,HR⟩:=hrel;clear HE HS
  by_cases ac:i<p.size
  ·have aR:(i:G)<(p.size:G):=by omega
   have b7:(0:G)<=(i:G):=Z;have hd:=D (kZ ac);have b0:=bt_nonneg p i;have b1:=bt_le p i;by_cases af:bt p i=93
   ·rcases Qv n with hn0|hn0
    ·subst hn0;have hF:F (RES= -1):=D (by rw[HR.o,hd.o,af];simp only[Nat.lt_irrefl,decide_false];rw[sV];rfl);have h4:((i:G)==(p.size:G))=false:=by simp;omega
     exact qa5
    have hF:F (RES=(i:G)+1):=by show _=_;rw[HR.o,hd.o,af,show decide (0<n)=true from by simpa using hn0,sW];simp only[SI,xR,RU,fp];omega
    have h4:((i:G)==(p.size:G))=false:=by simp;omega
    have h5:((n:G)==0)=false:=by simp;omega
    exact qa5
   have aW:(bt p i !=93)=true:=by simpa using af
   have ab:bt p i≠93:=af;cases hm:gO (bt p i)with
   |false=>
    have hF:F (RES= -1):=D (by rw[HR.o,hd.o,sX _ _ _ _ ab hm];rfl);clear ab af;clear HR;exact qV055
   |true=>
    by_cases h1:i+1<p.size
    ·have ay:=D (kZ h1);have aJ:(i:G)+1<(p.size:G):=by omega
     have c0:=bt_nonneg p (i+1);by_cases ad:bt p (i+1)=45
     ·have aA:(bt p (i+1)==45)=true:=by simpa using ad
      by_cases h2:i+1+1<p.size
      ·have az:=D (kZ h2);have cc:(i:G)+1+1<(p.size:G):=by omega
       have bK:((i:G)+1+1==(p.size:G))=false:=by simp;omega
       have e0:=bt_nonneg p (i+1+1);have e1:=bt_le p (i+1+1);cases hz:gO (bt p (i+1+1))with
       |false=>
        have hF:F (RES= -1):=D (by rw[HR.o,hd.o,ay.o,az.o,ad,lG _ _ _ _ ab hm (.inl hz)];rfl);clear ab af ad;clear HR;exact qV055
       |true=>
        by_cases b6:bt p (i+1+1)<bt p i
        ·have hF:F (RES= -1):=D (by rw[HR.o,hd.o,ay.o,az.o,ad,lG _ _ _ _ ab hm (.inr b6)];rfl);clear ab af ad;clear HR;exact qV055
        have hF:F (RES=xR p ((fJ false true ((b_ p).drop (i+3)) (fun _=>false)).map (·.2))):=by show _=_;rw[HR.o,hd.o,ay.o,az.o,ad,oZ _ _ _ _ ab hm hz Z,qZ false false _ true _ _ (fun _=>false) nZ]
        clear HR ab af ad;go_wp2_with (go_at_call 209;refine(mx _ _).mono ?_;rintro e w1 ⟨rfl,rfl⟩);go_round
        case rel=>exact⟨i+3,n+1,OT,OT,Z,Z,O3⟩
        case measure=>simp[intOf];omega
      have bK:((i:G)+1+1==(p.size:G))=true:=by simp;omega
      have hF:F (RES= -1):=by show _=_;rw[HR.o,hd.o,ay.o,ad,mZ Z,p9 _ _ _ ab hm,nS _ _ _ Z4];rfl
      clear ab af ad;clear HR;exact qV055
     have aA:(bt p (i+1)==45)=false:=by simpa using ad
     have hF:F (RES=xR p ((fJ false true ((b_ p).drop (i+1)) (fun _=>false)).map (·.2))):=by show _=_;rw[HR.o,hd.o,uZ _ _ _ _ ab hm (fun U6 r e=>by rw[ay.o]at e;simp at e;exact ad e.1),qZ false false _ true _ _ (fun _=>false) nZ]
     clear HR ab af ad;exact qV057
    have aJ:¬(i:G)+1<(p.size:G):=by omega
    have hF:F (RES=xR p ((fJ false true ((b_ p).drop (i+1)) (fun _=>false)).map (·.2))):=by show _=_;rw[HR.o,hd.o,mZ Z,nS _ _ _ ab];rfl
    clear HR ab af;exact qV057
  obtain rfl:i=p.size:=by omega
  have hF:F (RES= -1):=D (by rw[HR.o,mZ nZ];rfl);have h4:((p.size:G)==(p.size:G))=true:=C;exact qa5
def wh{not n:Uv}{x:G}{l:List G}{f g:V->Uv}{r:List G}(hx:x≠93)(h:fJ not n (x::l) f=some (g,r)):gO x=true/\r.length<l.length:=by
 cases hm:gO x with
 |false=>rw[sX _ _ _ _ hx hm]at h;simp at h
 |true=>
  refine⟨rfl,?_⟩;rcases l with _|⟨y,_|⟨U6,l⟩⟩
  ·rw[nS _ _ _ hx]at h;simp at h
  ·rw[p9 _ _ _ hx hm]at h;exact mt _ _ _ _ _ _ _ nZ h
  by_cases hy:y=45
  ·subst hy;by_cases hz:gO U6=false\/U6<x
   ·rw[lG _ _ _ _ hx hm hz]at h;simp at h
   have aL:gO U6=true:=by
    cases e:gO U6 with
    |true=>rfl
    |false=>exact(hz (.inl e)).elim
   rw[oZ _ _ _ _ hx hm aL (by have:=fun h=>hz (.inr h);omega)]at h;have:=mt _ _ _ _ _ _ _ nZ h;simp;omega
  rw[xE _ _ _ _ hx hm hy]at h;exact mt _ _ _ _ _ _ _ nZ h
def C9{not n:Uv}{x:G}{l:List G}{f g:V->Uv}{r:List G}(hx:x≠93)(h:fJ not n (x::45::l) f=some (g,r)):r.length<l.length/\∃U6 l',l=U6::l'/\fJ not true l' (iC f x U6)=some (g,r):=by
 have hm:=(wh hx h).1;rcases l with _|⟨U6,l⟩
 ·rw[p9 _ _ _ hx hm,nS _ _ _ Z4]at h;simp at h
 by_cases hz:gO U6=false\/U6<x
 ·rw[lG _ _ _ _ hx hm hz]at h;simp at h
 have aL:gO U6=true:=by
  cases e:gO U6 with
  |true=>rfl
  |false=>exact(hz (.inl e)).elim
 rw[oZ _ _ _ _ hx hm aL (by have:=fun h=>hz (.inr h);omega)]at h;have:=mt _ _ _ _ _ _ _ nZ h;exact⟨Z5,U6,l,rfl,h⟩
def l_{s:J}{i:V}(r:List G)(h:i<s.size):(b_ s).drop i++r=bt s i::((b_ s).drop (i+1)++r):=by rw[kZ h];rfl
def BE(a:J)(P:fA)(r:List G)(c:G)(w:Y)(ha:a.size<=4096)(h:fT (b_ a++r)=some (P,r))(h0:bt a 0=91)(c0:0<=c)(c1:c<=255):
  Cz 215 #[O a,Ui c] w (w,Ue (P.has c.toNat)):=by
 have an:0<a.size:=by
  rcases Qv a.size with e|e
  ·rw[bt_end a Z]at h0;simp at h0
  exact e
 obtain⟨nt,st,g,ao,b4,bD,hg,hP⟩:∃(nt:Uv) (st:V) (g:V->Uv),(st=if nt then 2 else 1)/\1<a.size/\nt=(bt a 1==33)/\fJ nt false ((b_ a).drop st++r) (fun _=>false)=some (g,r)/\P=⟨g,false⟩:=by
  rw[<-List.drop_zero (l:=b_ a),l_ r an,h0]at h;have h1:jC ((b_ a).drop 1++r)=some (P,r):=by simpa[fT]using h
  have h2:=xF h1;rw[QI,RU,fp]at h2;have h3:1<a.size:=Z;unfold jC at h1;simp only[Qp]at h1;obtain⟨⟨g,r'⟩,h4,h5⟩:=h1;simp only[RD]at h5;obtain⟨rfl,rfl⟩:=h5;rw[l_ r' h3]at h4;by_cases ar:bt a 1=33
  ·rw[ar]at h4;exact⟨true,2,g,rfl,h3,by rw[ar];rfl,h4,rfl⟩
  refine⟨false,1,g,rfl,h3,?_,?_,rfl⟩
  ·symm;simpa using ar
  rw[l_ r' h3];split at h4
  ·rename_i e;simp at e;exact(ar e.1).elim
  exact h4
 have bT:F (P.has c.toNat=g c.toNat):=D (by rw[hP]);generalize P.has c.toNat=RES at*
 have HG:=D hg;have gx:=get_bt a;have k1:(1:G)<(a.size:G):=Z;have HN:=D bD;clear hP hg h bD;go_enter Tryz.func215,Tryz.ntmps215
 go_upto_if 31 with fail
 have bF:(bt a 1==33)=nt:=HN.o.symm;rw[bF];clear bF;go_cut [6] (fun v w'=>v=I st/\w=w')
 case first=>
  cases nt with
  |true=>
   obtain rfl:st=2:=ao;go_wp2_with fail
   go_meet
   exact⟨rfl,rfl⟩
  |false=>
   obtain rfl:st=1:=ao;go_wp2_with fail
   go_meet
   exact⟨rfl,rfl⟩
 case rest=>
 obtain⟨rfl,rfl⟩:=hcut;have bk:st<=a.size:=by rw[ao];split;omega;omega
 clear ao;go_wp2_with fail
 go_loop [5,6] (fun bv iv=>∃(i:V) (f:V->Uv) (b:Uv),iv=I i/\bv=Ue (f c.toNat)/\i<=a.size/\F (fJ nt b ((b_ a).drop i++r) f=some (g,r))) (fun _ iv=>a.size-(intOf iv).toNat)
 case atStart=>exact⟨st,fun _=>false,false,rfl,rfl,bk,HG⟩
 case round=>
  obtain⟨i,f,b,rfl,rfl,hi,hC⟩:=hrel;clear HG
  have ac:i<a.size:=by
   rcases Qk i a.size with e|e
   ·exact e
   have h1:=hC.o;rw[mZ e,Qw]at h1;have:=mt _ _ _ _ _ _ _ nZ h1;omega
  have aR:(i:G)<(a.size:G):=Z;have b7:(0:G)<=(i:G):=Z;have hd:=D (l_ r ac);have b0:=bt_nonneg a i;have b1:=bt_le a i;by_cases af:bt a i=93
  ·have hF:F (RES=((f c.toNat !=nt)&&(c.toNat !=47))):=by
    have h1:=hC.o;rw[hd.o,af]at h1;cases b with
    |false=>rw[sV]at h1;simp at h1
    |true=>rw[sW]at h1;simp only[QH,RD]at h1;show _=_;rw[bT.o,<-h1.1];rfl
   have aW:(bt a i !=93)=false:=by simpa using af
   clear hC af;generalize f c.toNat=fv at*
   by_cases hf:fv=nt
   ·subst hf;go_wp2_with fail;go_ret;exact⟨iW (by rw[hF.o];simp),rfl⟩
   by_cases aE:c=47
   ·have aC:(c !=47)=false:=by simpa using aE
    have bo:(fv !=nt)=true:=by simpa using hf
    go_wp2_with fail;go_ret;exact⟨iW (by rw[hF.o,aE];simp),rfl⟩
   have aC:(c !=47)=true:=by simpa using aE
   have bo:(fv !=nt)=true:=by simpa using hf
   have ap:(c.toNat !=47)=true:=by simp;omega
   have b9:F (RES=true):=D (by rw[hF.o,bo,ap];rfl);clear ap hF;go_wp2_with fail;go_ret;exact⟨iW (by rw[b9.o]),rfl⟩
  have aW:(bt a i !=93)=true:=by simpa using af
  have ab:bt a i≠93:=af;have bd:=wh ab (by have h1:=hC.o;rw[hd.o]at h1;exact h1);have hm:=bd.1;have hl:=bd.2;rw[QI,RU,fp]at hl;have h1:i+1<a.size:=Z;have aJ:(i:G)+1<(a.size:G):=Z;have ay:=D (l_ r h1);have HM:=D hm;clear bd hm hl;by_cases ad:bt a (i+1)=45
  ·have aA:(bt a (i+1)==45)=true:=by simpa using ad
   have b3:=C9 (l:=(b_ a).drop (i+1+1)++r) ab (by have h1:=hC.o;rw[hd.o,ay.o,ad]at h1;exact h1);obtain⟨bC,U6,l',bm,bA⟩:=b3;rw[QI,RU,fp]at bC;have h2:i+2<a.size:=Z;have cc:(i:G)+2<(a.size:G):=Z;rw[l_ r (show i+1+1<a.size from h2)]at bm;simp only[Qc]at bm;obtain⟨rfl,rfl⟩:=bm;have e0:=bt_nonneg a (i+2);have e1:=bt_le a (i+2);have bg:=D bA;clear bA af ab ad bC;have hF:F (fJ nt true ((b_ a).drop (i+3)++r) (iC f (bt a i) (bt a (i+2)))=some (g,r)):=by show _=_;exact bg.o
   clear hC;cases ag:f c.toNat with
   |true=>
    have hs:iC f (bt a i) (bt a (i+2)) c.toNat=true:=by unfold iC;rw[ag];rfl
    exact qV051
   |false=>
    by_cases q1:bt a i<=c
    ·by_cases q2:c<=(bt a (i+2))
     ·have hs:iC f (bt a i) (bt a (i+2)) c.toNat=true:=by unfold iC;rw[ag,SO,Q6];exact⟨QY Z,QY Z⟩
      exact qV051
     have hs:iC f (bt a i) (bt a (i+2)) c.toNat=false:=by unfold iC;rw[ag,SO,SS];exact .inr (QP Z)
     exact qV051
    have hs:iC f (bt a i) (bt a (i+2)) c.toNat=false:=by unfold iC;rw[ag,SO,SS];exact .inl (QP Z)
    exact qV051
  have aA:(bt a (i+1)==45)=false:=by simpa using ad
  have aO:bt a (i+1)≠45:=ad;have bg:F (fJ nt true ((b_ a).drop (i+1)++r) (iC f (bt a i) (bt a i))=some (g,r)):=by show _=_;rw[<-hC.o,hd.o,uZ _ _ _ _ ab HM.o (fun U6 r e=>by rw[ay.o]at e;simp at e;exact aO e.1)]
  clear af ab ad aO;have hF:F (fJ nt true ((b_ a).drop (i+1)++r) (iC f (bt a i) (bt a i))=some (g,r)):=by show _=_;exact bg.o
  clear hC;cases ag:f c.toNat with
  |true=>
   have hs:iC f (bt a i) (bt a i) c.toNat=true:=by unfold iC;rw[ag];rfl
   exact qV052
  |false=>
   by_cases q1:bt a i<=c
   ·by_cases q2:c<=(bt a i)
    ·have hs:iC f (bt a i) (bt a i) c.toNat=true:=by unfold iC;rw[ag,SO,Q6];exact⟨QY Z,QY Z⟩
     exact qV052
    have hs:iC f (bt a i) (bt a i) c.toNat=false:=by unfold iC;rw[ag,SO,SS];exact .inr (QP Z)
    exact qV052
   have hs:iC f (bt a i) (bt a i) c.toNat=false:=by unfold iC;rw[ag,SO,SS];exact .inl (QP Z)
   exact qV052
def Fq(a:J)(P:fA)(r:List G)(c:G)(w:Y)(ha:a.size<=4096)(h:fT (b_ a++r)=some (P,r))(hs:bt a 0≠42)(c0:0<=c)(c1:c<=255):
  Cz 215 #[O a,Ui c] w (w,Ue (P.has c.toNat)):=by
 have an:0<a.size:=by have:=mI h;rw[QI,fp]at this;omega
 by_cases aI:bt a 0=91
 ·exact BE a P r c w ha h aI c0 c1
 have gx:=get_bt a;rw[<-List.drop_zero (l:=b_ a),l_ r an]at h;have x1:(0:G)<(a.size:G):=Z;by_cases aB:bt a 0=63
 ·have hP:F (P.has c.toNat=(c.toNat !=47)):=by rw[aB]at h;simp[fT]at h;show _=_;rw[<-h.1];rfl
  have d:(bt a 0==63)=true:=by simpa using aB
  clear h aB hs aI;generalize P.has c.toNat=RES at*
  by_cases aE:c=47
  ·have aC:(c !=47)=false:=by simpa using aE
   go_enter Tryz.func215,Tryz.ntmps215;go_wp2_with fail;go_ret;exact⟨iW (by rw[hP.o,aE];simp),rfl⟩
  have aC:(c !=47)=true:=by simpa using aE
  have ap:(c.toNat !=47)=true:=by simp;omega
  have au:F (RES=true):=D (by rw[hP.o,ap]);clear ap;go_enter Tryz.func215,Tryz.ntmps215;go_wp2_with fail;go_ret;exact⟨iW (by rw[au.o]),rfl⟩
 have d63:(bt a 0==63)=false:=by simpa using aB
 by_cases aF:bt a 0=92
 ·have h1:1<a.size:=by
   rcases Qk 1 a.size with e|e
   ·exact e
   rw[aF,mZ Z,Qw]at h;rcases r with _|⟨y,r⟩
   ·simp[fT]at h
   simp only[fT]at h;simp at h
  have aJ:(1:G)<(a.size:G):=Z;have e0:=bt_nonneg a 1;have hP:F (P.has c.toNat=decide (c=bt a 1)):=by rw[aF,l_ r h1]at h;simp[fT]at h;show _=_;rw[<-h.2.1];simp only[oW];rw[Rr];omega
  have d:(bt a 0==92)=true:=by simpa using aF
  clear h aB hs aI aF;generalize P.has c.toNat=RES at*
  by_cases hc:c=bt a 1
  ·have a8:(c==bt a 1)=true:=by simpa using hc
   have au:F (RES=true):=D (by rw[hP.o,QY hc]);exact qV056
  have a8:(c==bt a 1)=false:=by simpa using hc
  have au:F (RES=false):=D (by rw[hP.o,QP hc]);exact qV056
 have d92:(bt a 0==92)=false:=by simpa using aF
 have d91:(bt a 0==91)=false:=by simpa using aI
 have e0:=bt_nonneg a 0;have hP:F (P.has c.toNat=decide (c=bt a 0)):=by
  simp only[fT,K hs,K aB,K aI,K aF]at h;split at h
  ·simp only[QH,RD]at h;show _=_;rw[<-h.1];simp only[oW];rw[Rr];omega
  simp at h
 clear h aB hs aI aF;generalize P.has c.toNat=RES at*
 by_cases hc:c=bt a 0
 ·have a8:(c==bt a 0)=true:=by simpa using hc
  have au:F (RES=true):=D (by rw[hP.o,QY hc]);exact qV056
 have a8:(c==bt a 0)=false:=by simpa using hc
 have au:F (RES=false):=D (by rw[hP.o,QP hc]);exact qV056
def pt(W:Y)(b:V)(t:Uu)(v:X)(hc:W.heap[b]? =some (E #[v] t)):
  ∀(j:V) (u:X),[v][j]? =some u->W.cell? ((⟨b,0,none⟩:Addr).add j)=some u:=by
 intro j u hu
 match j,hu with
 |0,hu=>exact qap
def Ac:(Tryz.prog.info? 9).map (fun i=>(i.zero,i.size,i.bytes))=some (some (O ⟨#[]⟩),1,16):=by kernel_rfl
def xS{w:Y}{B:V}{e:Uu}{sz n:V}{v:X}{xs:List X}(h:w.ownsRow B e sz v n xs):∀k,v.ownBlock=some k->B<=k:=by
 obtain⟨_,(⟨rfl,_⟩|⟨g,cap,cur,rfl,hB,_⟩)⟩:=h
 ·intro k h;simp[Value.ownBlock]at h
 intro k h;simp[Value.ownBlock]at h;omega
def kN(p:J)(k:V):G:=match fT ((b_ p).drop k)with
 |some (_,r)=>(p.size:G)-r.length
 |none=> -1
def qd(l:List G)(B:V)(e:Uw)(w':Y):Us:=match kg l with
 |some ps=>∃(v:X) (ls:List J),e=Ud (Uh #[v,Ue (decide (0<ps.length))])/\ls.map b_=ps.map (·.1)/\w'.ownsRow B 9 1 v ps.length (ls.map Value.string)
 |none=>e=Ud (Uh #[M none 0 0,Ue false])
def w_(p:J)(i j:V):b_ (p.extract i j)=((b_ p).drop i).take (j-i):=by simp only[b_,S9,TW,List.extract_eq_take_drop,List.map_take,List.map_drop]
def Fr{p:J}{k:V}{P:fA}{r:List G}(h:fT ((b_ p).drop k)=some (P,r))(hk:k<=p.size):∃U0:V,kN p k=U0/\k<U0/\U0<=p.size/\r=(b_ p).drop U0/\((b_ p).drop k).take (((b_ p).drop k).length-r.length)=b_ (p.extract k U0):=by
 have h1:=mI h;obtain⟨a,ha⟩:=tC h;rw[RU,fp]at h1;refine⟨p.size-r.length,?_,Z,Z,?_,?_⟩
 ·unfold kN;rw[h];simp only;omega
 ·have h2:((b_ p).drop k).drop a.length=r:=by rw[ha,List.drop_left]
  rw[Uj]at h2
  have h3:a.length+r.length=p.size-k:=by have:=QJ List.length ha;rw[RU,fp,QI]at this;omega
  rw[show k+a.length=p.size-r.length from by omega]at h2;exact h2.symm
 rw[w_,RU,fp];rw[show p.size-k-r.length=p.size-r.length-k from by omega]
def C_{x:G}(h:x≠42)(r:List G):fT (42::x::r)=some (qY false true,x::r):=by
 simp only[fT];split
 ·split
  ·rename_i e;simp at e;exact(h e.1).elim
  rfl
 rename_i e;exact(e trivial).elim
def xU{p:J}{k:V}(h:k<p.size)(hc:bt p k=42):kN p k=if k+1<p.size/\bt p (k+1)=42 then(k:G)+2 else(k:G)+1:=by
 unfold kN;rw[kZ h,hc];by_cases h1:k+1<p.size
 ·rw[kZ h1]
  by_cases h2:bt p (k+1)=42
  ·rw[z ⟨h1,h2⟩,h2];simp only[fT,RN,RU,fp];omega
  rw[K (fun h=>h2 h.2)];have:fT (42::bt p (k+1)::(b_ p).drop (k+1+1))=some (qY false true,bt p (k+1)::(b_ p).drop (k+1+1)):=C_ h2 _;rw[this];simp only[QL,RU,fp];omega
 rw[K (fun h=>h1 h.1),mZ Z];simp only[fT,RN,Qf];omega
def Kv{p:J}{k:V}(h:k<p.size)(hc:bt p k=63):kN p k=(k:G)+1:=by unfold kN;rw[kZ h,hc];simp[fT,fp];omega
def Kw{p:J}{k:V}(h:k<p.size)(hc:bt p k=91):kN p k=oI p k:=by
 unfold kN oI;rw[kZ h,hc];simp only[fT];cases jC ((b_ p).drop (k+1))<;>rfl
def xV{p:J}{k:V}(h:k<p.size)(hc:bt p k=92):kN p k=if k+1<p.size/\jd (bt p (k+1))=true then(k:G)+2 else-1:=by
 unfold kN;rw[kZ h,hc];by_cases h1:k+1<p.size
 ·rw[kZ h1]
  by_cases h2:jd (bt p (k+1))=true
  ·rw[z ⟨h1,h2⟩];simp[fT,h2,fp];omega
  rw[K (fun h=>h2 h.2)];simp[fT,h2]
 rw[K (fun h=>h1 h.1),mZ Z];simp[fT]
def Fs{p:J}{k:V}(h:k<p.size)(h1:bt p k≠42)(h2:bt p k≠63)(h3:bt p k≠91)(h4:bt p k≠92):kN p k=if bt p k<33\/126<bt p k\/bt p k=34\/bt p k=93 then-1 else(k:G)+1:=by
 unfold kN;rw[kZ h];by_cases hb:bt p k<33\/126<bt p k\/bt p k=34\/bt p k=93
 ·rw[z hb];have:nB (bt p k)=false:=by unfold nB;rw[Sz];omega
  simp[fT,h1,h2,h3,h4,this]
 rw[K hb];have:nB (bt p k)=true:=by unfold nB;rw[decide_eq_true_iff];omega
 simp[fT,h1,h2,h3,h4,this,fp];omega
def xW(p:J)(w:Y)(bO:p.size<=4096):
  Cz 141 #[O p] w fun e w'=>qd (b_ p) w.heap.size e w'/\(w,w'):=by
 obtain⟨i0,hi,bV,aL,aZ⟩:=info_parts Ac;have gx:=get_bt p;go_enter Tryz.func141,Tryz.ntmps141
 go_wp2_with fail;go_loopw [4,5] (fun lv kv wr=>∃(k:V) (ps:List (List G×fA)) (ls:List J),kv=I k/\k<=p.size/\ps.length<=k/\ls.length=ps.length/\F (ls.map b_=ps.map (·.1))/\F (wr.ownsRow w.heap.size 9 1 lv ps.length (ls.map Value.string))/\(w,wr)/\F ((kg ((b_ p).drop k)).map (ps++·)=kg (b_ p))) (fun _ kv _=>p.size-(intOf kv).toNat)
 case atStart=>
  refine⟨0,[],[],rfl,QQ _,nZ,rfl,rfl,Qu _ _ _ _,bR,?_⟩;show _=_;rw[List.drop_zero]
  cases kg (b_ p)<;>rfl
 case round=>
  obtain⟨k,ps,ls,rfl,hk,hn,bb,aP,ak,hb,hC⟩:=hrel
  by_cases ac:k<p.size
  ·have aR:(k:G)<(p.size:G):=by omega
   have ch:(0:G)<=(k:G):=Z;have b0:=bt_nonneg p k;have b1:=bt_le p k
   go_upto_block 2 with fail
   go_cut [7] (fun ev wc=>ev=I (kN p k)/\wr=wc)
   case first=>
    have cp:F (bt p k=bt p k):=rfl;by_cases c42:bt p k=42
    ·have d:(bt p k==42)=true:=by simpa using c42
     by_cases h1:k+1<p.size
     ·have aJ:(k:G)+1<(p.size:G):=by omega
      by_cases h2:bt p (k+1)=42
      ·have d2:(bt p (k+1)==42)=true:=by simpa using h2
       have hE:F (kN p k=(k:G)+2):=D (by rw[xU ac c42,z ⟨h1,h2⟩]);clear c42 h2;go_wp2_with fail
       go_meet
       exact⟨by rw[hE.o];go_num,rfl⟩
      have d2:(bt p (k+1)==42)=false:=by simpa using h2
      have hE:F (kN p k=(k:G)+1):=D (by rw[xU ac c42,K (fun h=>h2 h.2)]);clear c42 h2;go_wp2_with fail
      go_meet
      exact⟨O4,rfl⟩
     have aJ:¬(k:G)+1<(p.size:G):=by omega
     have hE:F (kN p k=(k:G)+1):=D (by rw[xU ac c42,K (fun h=>h1 h.1)]);clear c42;go_wp2_with fail
     go_meet
     exact⟨O4,rfl⟩
    have d42:(bt p k==42)=false:=by simpa using c42
    by_cases c91:bt p k=91
    ·have d:(bt p k==91)=true:=by simpa using c91
     have hE:F (kN p k=oI p k):=Kw ac c91;clear c91 c42;go_wp2_with (go_at_call 181;refine(BD p _ _ bO ac).mono ?_;rintro e w1 ⟨rfl,rfl⟩)
     go_meet
     exact⟨O4,rfl⟩
    have d91:(bt p k==91)=false:=by simpa using c91
    by_cases c92:bt p k=92
    ·have d:(bt p k==92)=true:=by simpa using c92
     by_cases h1:k+1<p.size
     ·have aJ:(k:G)+1<(p.size:G):=by omega
      have cg:¬(p.size:G)<(k:G)+2:=Z;cases h2:jd (bt p (k+1))with
      |true=>
       have hE:F (kN p k=(k:G)+2):=D (by rw[xV ac c92,z ⟨h1,h2⟩]);exact qV0513
      |false=>
       have hE:F (kN p k= -1):=D (by rw[xV ac c92,K (fun h=>by rw[h2]at h;exact absurd h.2 C)]);exact qV0513
     have cg:(p.size:G)<(k:G)+2:=by omega
     have hE:F (kN p k= -1):=D (by rw[xV ac c92,K (fun h=>h1 h.1)]);clear c92 c91 c42;go_wp2_with fail
     go_meet
     exact⟨O4,rfl⟩
    have d92:(bt p k==92)=false:=by simpa using c92
    by_cases c63:bt p k=63
    ·have d:(bt p k==63)=true:=by simpa using c63
     have hE:F (kN p k=(k:G)+1):=Kv ac c63;clear c92 c91 c42 c63;go_wp2_with fail
     go_meet
     exact⟨O4,rfl⟩
    have d63:(bt p k==63)=false:=by simpa using c63
    have aY:=Fs ac c42 c63 c91 c92;clear c92 c91 c42 c63;by_cases hb:bt p k<33\/126<bt p k\/bt p k=34\/bt p k=93
    ·have hE:F (kN p k= -1):=D (by rw[aY,z hb]);clear aY;have aD:=D hb;clear hb;by_cases q1:bt p k<33
     ·go_wp2_with fail
      go_meet
      exact⟨O4,rfl⟩
     by_cases q2:126<bt p k
     ·go_wp2_with fail
      go_meet
      exact⟨O4,rfl⟩
     by_cases q3:bt p k=34
     ·have q3':(bt p k==34)=true:=by simpa using q3
      clear q3;go_wp2_with fail
      go_meet
      exact⟨O4,rfl⟩
     have q3':(bt p k==34)=false:=by simpa using q3
     have q4:(bt p k==93)=true:=by have:=aD.o;simp;omega
     clear q3;go_wp2_with fail
     go_meet
     exact⟨O4,rfl⟩
    have hE:F (kN p k=(k:G)+1):=D (by rw[aY,K hb]);clear aY;have q1:¬bt p k<33:=fun h=>hb (.inl h);have q2:¬126<bt p k:=fun h=>hb (.inr (.inl h));have q3:(bt p k==34)=false:=by simp;omega
    have q4:(bt p k==93)=false:=by simp;omega
    clear hb;go_wp2_with fail
    go_meet
    exact⟨O4,rfl⟩
   case rest=>
    obtain⟨rfl,rfl⟩:=hcut;have aK:(b_ p).drop k≠[]:=by rw[kZ ac];simp
    cases hp:fT ((b_ p).drop k)with
    |none=>
     have hE:F (kN p k= -1):=D (by unfold kN;rw[hp]);have hF:F (kg (b_ p)=none):=D (by rw[<-hC.o,o5 aK,hp];rfl);clear hC hp aK;rw[hE.o];go_wp2_with fail
     go_ret2
     refine⟨?_,hb⟩;unfold qd;rw[hF.o];rfl
    |some x=>
     obtain⟨P,r⟩:=x;obtain⟨U0,e1,e2,e3,e4,e5⟩:=Fr hp hk
     have hF:F ((kg ((b_ p).drop U0)).map ((ps++[(b_ (p.extract k U0),P)])++·)=kg (b_ p)):=by
      show _=_;rw[<-hC.o,o5 aK,hp];simp only[RJ];rw[<-e4,<-e5];cases kg r<;>simp
     have HE:=D e1;rw[e1];clear hC hp aK e1 e4 e5;have x1:(k:G)<=(U0:G):=Z;have x2:(U0:G)<=(p.size:G):=Z;have x3:¬(U0:G)<0:=Z;have cn:=hb.size;go_wp2_with (at_builtin;refine RB _ rfl _ _ _ rfl w.heap.size 9 i0 _ 1 16 Sc hi bV aL aZ rfl Z _ ps.length (ls.map Value.string) rfl (ak.o.alloc _) ⟨wr.heap.size,0,none⟩ 1 1 [O (p.extract k U0)] rfl rfl (pt _ _ _ _ zH) Zc Z9 Z Z5 ?_;intro v' w1 av ax _);have bZ:w w1:=(hb.alloc Z _).grown ax Z5 (xS ak.o);have aw:w1.ownsRow w.heap.size 9 1 v' (ps++[(b_ (p.extract k U0),P)]).length ((ls++[p.extract k U0]).map Value.string):=by simpa using av
     have bS:=D aw;have ba:F ((ls++[p.extract k U0]).map b_=(ps++[(b_ (p.extract k U0),P)]).map (·.1)):=D (by rw[Q7,Q7,aP.o];rfl);clear av ax aw ak aP;go_wp2_with fail;go_roundw
     case rel=>exact⟨U0,ps++[(b_ (p.extract k U0),P)],ls++[p.extract k U0],rfl,e3,Z5,Z5,ba,bS,bZ,hF⟩
     case measure=>simp[intOf];omega
  obtain rfl:k=p.size:=by omega
  have hF:F (kg (b_ p)=some ps):=by show _=_;rw[<-hC.o,mZ nZ,sY];simp
  clear hC;obtain⟨v,hv⟩:∃v,F (u4=v):=⟨_,rfl⟩;have hO:F (wr.ownsRow w.heap.size 9 1 v ps.length (ls.map Value.string)):=by rw[<-hv.o];exact ak.o
  have co:¬(p.size:G)<(p.size:G):=Z;rcases ak.o with⟨_,(⟨e1,e2⟩|⟨g,cap,cur,e1,_⟩)⟩
  ·have e3:ps.length=0:=e2;have hd:F (decide (0<ps.length)=false):=D (by rw[e3];rfl);clear ak;rw[hv.o]at e1;have a7:F (v=M none 0 0):=e1;have bh:u4=M none 0 0:=by rw[hv.o,e1]
   clear hv e1 e2 e3;subst bh;exact qV0510
  have a7:F (v=M (g,0) ps.length cap):=D (by rw[<-hv.o];exact e1);have bh:u4=M (g,0) ps.length cap:=e1;clear hv e1 ak;subst bh;have cj:F (decide ((0:G)<(ps.length:G))=decide (0<ps.length)):=D (by rw[Rr];omega);rcases Qv ps.length with h0|h0
  ·have hd:F (decide (0<ps.length)=false):=D (by rw[h0];rfl);have h1:¬(0:G)<(ps.length:G):=Z;clear h0;exact qV0510
  have hd:F (decide (0<ps.length)=true):=QY h0;have h1:(0:G)<(ps.length:G):=by omega
  clear h0;exact qV0510
end Go.Proofs.YtmgngapkgcofnabGreatDoor
