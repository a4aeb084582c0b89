/- The tables of the program. -/
import Derived.Test.YtllijcnbjbfabaaDevM24
import Derived.Test.YtllijcnbjbfabaaChecked
namespace Go.Proofs.Ytllijcnbjbfabaa
open Go.RowKit
set_option maxRecDepth 100000

@[go_sem] theorem und_2 : Try.prog.underlying 2 = some (.int .i64) := by kernel_rfl
noncomputable def ti2 : TypeInfo := (Try.prog.info? 2).getD default
@[go_sem] theorem inf_2 : Try.prog.info? 2 = some ti2 := by kernel_rfl
@[go_sem] theorem tis2 : ti2.size = 1 := by kernel_rfl
@[go_sem] theorem tib2 : ti2.bytes = 8 := by kernel_rfl
noncomputable def zv2 : Value := (ti2.zero).getD Go.undef
@[go_sem] theorem tiz2 : ti2.zero = some zv2 := by kernel_rfl
@[go_sem ↓] theorem zvs2 : zv2.cells.size = 1 := by kernel_rfl
@[go_sem ↓] theorem zvo2 : zv2.cells.toList.all (fun v => v.oneCell') = true := by kernel_rfl
@[go_sem ↓] theorem zvv2 : zv2.cells.toList.map vOf = [.int .i64 0] := by kernel_rfl
@[go_sem] theorem und_3 : Try.prog.underlying 3 = some (.int .i64) := by kernel_rfl
noncomputable def ti3 : TypeInfo := (Try.prog.info? 3).getD default
@[go_sem] theorem inf_3 : Try.prog.info? 3 = some ti3 := by kernel_rfl
@[go_sem] theorem tis3 : ti3.size = 1 := by kernel_rfl
@[go_sem] theorem tib3 : ti3.bytes = 8 := by kernel_rfl
noncomputable def zv3 : Value := (ti3.zero).getD Go.undef
@[go_sem] theorem tiz3 : ti3.zero = some zv3 := by kernel_rfl
@[go_sem ↓] theorem zvs3 : zv3.cells.size = 1 := by kernel_rfl
@[go_sem ↓] theorem zvo3 : zv3.cells.toList.all (fun v => v.oneCell') = true := by kernel_rfl
@[go_sem ↓] theorem zvv3 : zv3.cells.toList.map vOf = [.int .i64 0] := by kernel_rfl
@[go_sem] theorem und_4 : Try.prog.underlying 4 = some (.bool) := by kernel_rfl
noncomputable def ti4 : TypeInfo := (Try.prog.info? 4).getD default
@[go_sem] theorem inf_4 : Try.prog.info? 4 = some ti4 := by kernel_rfl
@[go_sem] theorem tis4 : ti4.size = 1 := by kernel_rfl
@[go_sem] theorem tib4 : ti4.bytes = 1 := by kernel_rfl
noncomputable def zv4 : Value := (ti4.zero).getD Go.undef
@[go_sem] theorem tiz4 : ti4.zero = some zv4 := by kernel_rfl
@[go_sem ↓] theorem zvs4 : zv4.cells.size = 1 := by kernel_rfl
@[go_sem ↓] theorem zvo4 : zv4.cells.toList.all (fun v => v.oneCell') = true := by kernel_rfl
@[go_sem ↓] theorem zvv4 : zv4.cells.toList.map vOf = [.bool false] := by kernel_rfl
@[go_sem] theorem und_5 : Try.prog.underlying 5 = some (.int .u8) := by kernel_rfl
noncomputable def ti5 : TypeInfo := (Try.prog.info? 5).getD default
@[go_sem] theorem inf_5 : Try.prog.info? 5 = some ti5 := by kernel_rfl
@[go_sem] theorem tis5 : ti5.size = 1 := by kernel_rfl
@[go_sem] theorem tib5 : ti5.bytes = 1 := by kernel_rfl
noncomputable def zv5 : Value := (ti5.zero).getD Go.undef
@[go_sem] theorem tiz5 : ti5.zero = some zv5 := by kernel_rfl
@[go_sem ↓] theorem zvs5 : zv5.cells.size = 1 := by kernel_rfl
@[go_sem ↓] theorem zvo5 : zv5.cells.toList.all (fun v => v.oneCell') = true := by kernel_rfl
@[go_sem ↓] theorem zvv5 : zv5.cells.toList.map vOf = [.int .u8 0] := by kernel_rfl
@[go_sem] theorem und_9 : Try.prog.underlying 9 = some (.string) := by kernel_rfl
noncomputable def ti9 : TypeInfo := (Try.prog.info? 9).getD default
@[go_sem] theorem inf_9 : Try.prog.info? 9 = some ti9 := by kernel_rfl
@[go_sem] theorem tis9 : ti9.size = 1 := by kernel_rfl
@[go_sem] theorem tib9 : ti9.bytes = 16 := by kernel_rfl
noncomputable def zv9 : Value := (ti9.zero).getD Go.undef
@[go_sem] theorem tiz9 : ti9.zero = some zv9 := by kernel_rfl
@[go_sem ↓] theorem zvs9 : zv9.cells.size = 1 := by kernel_rfl
@[go_sem ↓] theorem zvo9 : zv9.cells.toList.all (fun v => v.oneCell') = true := by kernel_rfl
@[go_sem ↓] theorem zvv9 : zv9.cells.toList.map vOf = [.str ⟨#[]⟩] := by kernel_rfl
@[go_sem] theorem und_12 : Try.prog.underlying 12 = some (.int .u64) := by kernel_rfl
noncomputable def ti12 : TypeInfo := (Try.prog.info? 12).getD default
@[go_sem] theorem inf_12 : Try.prog.info? 12 = some ti12 := by kernel_rfl
@[go_sem] theorem tis12 : ti12.size = 1 := by kernel_rfl
@[go_sem] theorem tib12 : ti12.bytes = 8 := by kernel_rfl
noncomputable def zv12 : Value := (ti12.zero).getD Go.undef
@[go_sem] theorem tiz12 : ti12.zero = some zv12 := by kernel_rfl
@[go_sem ↓] theorem zvs12 : zv12.cells.size = 1 := by kernel_rfl
@[go_sem ↓] theorem zvo12 : zv12.cells.toList.all (fun v => v.oneCell') = true := by kernel_rfl
@[go_sem ↓] theorem zvv12 : zv12.cells.toList.map vOf = [.int .u64 0] := by kernel_rfl
@[go_sem] theorem und_21 : Try.prog.underlying 21 = some (.int .i32) := by kernel_rfl
noncomputable def ti21 : TypeInfo := (Try.prog.info? 21).getD default
@[go_sem] theorem inf_21 : Try.prog.info? 21 = some ti21 := by kernel_rfl
@[go_sem] theorem tis21 : ti21.size = 1 := by kernel_rfl
@[go_sem] theorem tib21 : ti21.bytes = 4 := by kernel_rfl
noncomputable def zv21 : Value := (ti21.zero).getD Go.undef
@[go_sem] theorem tiz21 : ti21.zero = some zv21 := by kernel_rfl
@[go_sem ↓] theorem zvs21 : zv21.cells.size = 1 := by kernel_rfl
@[go_sem ↓] theorem zvo21 : zv21.cells.toList.all (fun v => v.oneCell') = true := by kernel_rfl
@[go_sem ↓] theorem zvv21 : zv21.cells.toList.map vOf = [.int .i32 0] := by kernel_rfl
@[go_sem] theorem und_25 : Try.prog.underlying 25 = some (.int .u64) := by kernel_rfl
noncomputable def ti25 : TypeInfo := (Try.prog.info? 25).getD default
@[go_sem] theorem inf_25 : Try.prog.info? 25 = some ti25 := by kernel_rfl
@[go_sem] theorem tis25 : ti25.size = 1 := by kernel_rfl
@[go_sem] theorem tib25 : ti25.bytes = 8 := by kernel_rfl
noncomputable def zv25 : Value := (ti25.zero).getD Go.undef
@[go_sem] theorem tiz25 : ti25.zero = some zv25 := by kernel_rfl
@[go_sem ↓] theorem zvs25 : zv25.cells.size = 1 := by kernel_rfl
@[go_sem ↓] theorem zvo25 : zv25.cells.toList.all (fun v => v.oneCell') = true := by kernel_rfl
@[go_sem ↓] theorem zvv25 : zv25.cells.toList.map vOf = [.int .u64 0] := by kernel_rfl
@[go_sem] theorem und_29 : Try.prog.underlying 29 = some (.slice 9) := by kernel_rfl
noncomputable def ti29 : TypeInfo := (Try.prog.info? 29).getD default
@[go_sem] theorem inf_29 : Try.prog.info? 29 = some ti29 := by kernel_rfl
@[go_sem] theorem tis29 : ti29.size = 1 := by kernel_rfl
@[go_sem] theorem tib29 : ti29.bytes = 24 := by kernel_rfl
noncomputable def zv29 : Value := (ti29.zero).getD Go.undef
@[go_sem] theorem tiz29 : ti29.zero = some zv29 := by kernel_rfl
@[go_sem ↓] theorem zvs29 : zv29.cells.size = 1 := by kernel_rfl
@[go_sem ↓] theorem zvo29 : zv29.cells.toList.all (fun v => v.oneCell') = true := by kernel_rfl
@[go_sem ↓] theorem zvv29 : zv29.cells.toList.map vOf = [.sl [] true] := by kernel_rfl
@[go_sem] theorem und_30 : Try.prog.underlying 30 = some (.int .i64) := by kernel_rfl
noncomputable def ti30 : TypeInfo := (Try.prog.info? 30).getD default
@[go_sem] theorem inf_30 : Try.prog.info? 30 = some ti30 := by kernel_rfl
@[go_sem] theorem tis30 : ti30.size = 1 := by kernel_rfl
@[go_sem] theorem tib30 : ti30.bytes = 8 := by kernel_rfl
noncomputable def zv30 : Value := (ti30.zero).getD Go.undef
@[go_sem] theorem tiz30 : ti30.zero = some zv30 := by kernel_rfl
@[go_sem ↓] theorem zvs30 : zv30.cells.size = 1 := by kernel_rfl
@[go_sem ↓] theorem zvo30 : zv30.cells.toList.all (fun v => v.oneCell') = true := by kernel_rfl
@[go_sem ↓] theorem zvv30 : zv30.cells.toList.map vOf = [.int .i64 0] := by kernel_rfl
@[go_sem] theorem und_33 : Try.prog.underlying 33 = some (.slice 48) := by kernel_rfl
noncomputable def ti33 : TypeInfo := (Try.prog.info? 33).getD default
@[go_sem] theorem inf_33 : Try.prog.info? 33 = some ti33 := by kernel_rfl
@[go_sem] theorem tis33 : ti33.size = 1 := by kernel_rfl
@[go_sem] theorem tib33 : ti33.bytes = 24 := by kernel_rfl
noncomputable def zv33 : Value := (ti33.zero).getD Go.undef
@[go_sem] theorem tiz33 : ti33.zero = some zv33 := by kernel_rfl
@[go_sem ↓] theorem zvs33 : zv33.cells.size = 1 := by kernel_rfl
@[go_sem ↓] theorem zvo33 : zv33.cells.toList.all (fun v => v.oneCell') = true := by kernel_rfl
@[go_sem ↓] theorem zvv33 : zv33.cells.toList.map vOf = [.sl [] true] := by kernel_rfl
@[go_sem] theorem und_34 : Try.prog.underlying 34 = some (.slice 3) := by kernel_rfl
noncomputable def ti34 : TypeInfo := (Try.prog.info? 34).getD default
@[go_sem] theorem inf_34 : Try.prog.info? 34 = some ti34 := by kernel_rfl
@[go_sem] theorem tis34 : ti34.size = 1 := by kernel_rfl
@[go_sem] theorem tib34 : ti34.bytes = 24 := by kernel_rfl
noncomputable def zv34 : Value := (ti34.zero).getD Go.undef
@[go_sem] theorem tiz34 : ti34.zero = some zv34 := by kernel_rfl
@[go_sem ↓] theorem zvs34 : zv34.cells.size = 1 := by kernel_rfl
@[go_sem ↓] theorem zvo34 : zv34.cells.toList.all (fun v => v.oneCell') = true := by kernel_rfl
@[go_sem ↓] theorem zvv34 : zv34.cells.toList.map vOf = [.sl [] true] := by kernel_rfl
noncomputable def fs36 : Array Field := match Try.prog.underlying 36 with | some (.struct fs) => fs | _ => #[]
@[go_sem] theorem und_36 : Try.prog.underlying 36 = some (.struct fs36) := by kernel_rfl
noncomputable def fd36_0 : Field := (fs36[0]?).getD default
@[go_sem] theorem fg36_0 : fs36[0]? = some fd36_0 := by kernel_rfl
@[go_sem] theorem ft36_0 : fd36_0.type = 29 := by kernel_rfl
@[go_sem] theorem fo36_0 : fd36_0.offset = 0 := by kernel_rfl
noncomputable def fd36_1 : Field := (fs36[1]?).getD default
@[go_sem] theorem fg36_1 : fs36[1]? = some fd36_1 := by kernel_rfl
@[go_sem] theorem ft36_1 : fd36_1.type = 33 := by kernel_rfl
@[go_sem] theorem fo36_1 : fd36_1.offset = 1 := by kernel_rfl
noncomputable def fd36_2 : Field := (fs36[2]?).getD default
@[go_sem] theorem fg36_2 : fs36[2]? = some fd36_2 := by kernel_rfl
@[go_sem] theorem ft36_2 : fd36_2.type = 34 := by kernel_rfl
@[go_sem] theorem fo36_2 : fd36_2.offset = 2 := by kernel_rfl
noncomputable def fd36_3 : Field := (fs36[3]?).getD default
@[go_sem] theorem fg36_3 : fs36[3]? = some fd36_3 := by kernel_rfl
@[go_sem] theorem ft36_3 : fd36_3.type = 3 := by kernel_rfl
@[go_sem] theorem fo36_3 : fd36_3.offset = 3 := by kernel_rfl
noncomputable def fd36_4 : Field := (fs36[4]?).getD default
@[go_sem] theorem fg36_4 : fs36[4]? = some fd36_4 := by kernel_rfl
@[go_sem] theorem ft36_4 : fd36_4.type = 34 := by kernel_rfl
@[go_sem] theorem fo36_4 : fd36_4.offset = 4 := by kernel_rfl
@[go_sem] theorem pl36 : fs36.toList.mapM (fun f => (Try.prog.info? f.type).map fun i => (f.offset, i.size)) = some [(0, 1), (1, 1), (2, 1), (3, 1), (4, 1)] := by kernel_rfl
noncomputable def ti36 : TypeInfo := (Try.prog.info? 36).getD default
@[go_sem] theorem inf_36 : Try.prog.info? 36 = some ti36 := by kernel_rfl
@[go_sem] theorem tis36 : ti36.size = 5 := by kernel_rfl
@[go_sem] theorem tib36 : ti36.bytes = 104 := by kernel_rfl
noncomputable def zv36 : Value := (ti36.zero).getD Go.undef
@[go_sem] theorem tiz36 : ti36.zero = some zv36 := by kernel_rfl
@[go_sem ↓] theorem zvs36 : zv36.cells.size = 5 := by kernel_rfl
@[go_sem ↓] theorem zvo36 : zv36.cells.toList.all (fun v => v.oneCell') = true := by kernel_rfl
@[go_sem ↓] theorem zvv36 : zv36.cells.toList.map vOf = [.sl [] true, .sl [] true, .sl [] true, .int .i64 0, .sl [] true] := by kernel_rfl
@[go_sem] theorem und_41 : Try.prog.underlying 41 = some (.int .i8) := by kernel_rfl
noncomputable def ti41 : TypeInfo := (Try.prog.info? 41).getD default
@[go_sem] theorem inf_41 : Try.prog.info? 41 = some ti41 := by kernel_rfl
@[go_sem] theorem tis41 : ti41.size = 1 := by kernel_rfl
@[go_sem] theorem tib41 : ti41.bytes = 1 := by kernel_rfl
noncomputable def zv41 : Value := (ti41.zero).getD Go.undef
@[go_sem] theorem tiz41 : ti41.zero = some zv41 := by kernel_rfl
@[go_sem ↓] theorem zvs41 : zv41.cells.size = 1 := by kernel_rfl
@[go_sem ↓] theorem zvo41 : zv41.cells.toList.all (fun v => v.oneCell') = true := by kernel_rfl
@[go_sem ↓] theorem zvv41 : zv41.cells.toList.map vOf = [.int .i8 0] := by kernel_rfl
noncomputable def fs43 : Array Field := match Try.prog.underlying 43 with | some (.struct fs) => fs | _ => #[]
@[go_sem] theorem und_43 : Try.prog.underlying 43 = some (.struct fs43) := by kernel_rfl
noncomputable def fd43_0 : Field := (fs43[0]?).getD default
@[go_sem] theorem fg43_0 : fs43[0]? = some fd43_0 := by kernel_rfl
@[go_sem] theorem ft43_0 : fd43_0.type = 41 := by kernel_rfl
@[go_sem] theorem fo43_0 : fd43_0.offset = 0 := by kernel_rfl
noncomputable def fd43_1 : Field := (fs43[1]?).getD default
@[go_sem] theorem fg43_1 : fs43[1]? = some fd43_1 := by kernel_rfl
@[go_sem] theorem ft43_1 : fd43_1.type = 3 := by kernel_rfl
@[go_sem] theorem fo43_1 : fd43_1.offset = 1 := by kernel_rfl
noncomputable def fd43_2 : Field := (fs43[2]?).getD default
@[go_sem] theorem fg43_2 : fs43[2]? = some fd43_2 := by kernel_rfl
@[go_sem] theorem ft43_2 : fd43_2.type = 9 := by kernel_rfl
@[go_sem] theorem fo43_2 : fd43_2.offset = 2 := by kernel_rfl
noncomputable def fd43_3 : Field := (fs43[3]?).getD default
@[go_sem] theorem fg43_3 : fs43[3]? = some fd43_3 := by kernel_rfl
@[go_sem] theorem ft43_3 : fd43_3.type = 3 := by kernel_rfl
@[go_sem] theorem fo43_3 : fd43_3.offset = 3 := by kernel_rfl
@[go_sem] theorem pl43 : fs43.toList.mapM (fun f => (Try.prog.info? f.type).map fun i => (f.offset, i.size)) = some [(0, 1), (1, 1), (2, 1), (3, 1)] := by kernel_rfl
noncomputable def ti43 : TypeInfo := (Try.prog.info? 43).getD default
@[go_sem] theorem inf_43 : Try.prog.info? 43 = some ti43 := by kernel_rfl
@[go_sem] theorem tis43 : ti43.size = 4 := by kernel_rfl
@[go_sem] theorem tib43 : ti43.bytes = 40 := by kernel_rfl
noncomputable def zv43 : Value := (ti43.zero).getD Go.undef
@[go_sem] theorem tiz43 : ti43.zero = some zv43 := by kernel_rfl
@[go_sem ↓] theorem zvs43 : zv43.cells.size = 4 := by kernel_rfl
@[go_sem ↓] theorem zvo43 : zv43.cells.toList.all (fun v => v.oneCell') = true := by kernel_rfl
@[go_sem ↓] theorem zvv43 : zv43.cells.toList.map vOf = [.int .i8 0, .int .i64 0, .str ⟨#[]⟩, .int .i64 0] := by kernel_rfl
@[go_sem] theorem und_44 : Try.prog.underlying 44 = some (.slice 43) := by kernel_rfl
noncomputable def ti44 : TypeInfo := (Try.prog.info? 44).getD default
@[go_sem] theorem inf_44 : Try.prog.info? 44 = some ti44 := by kernel_rfl
@[go_sem] theorem tis44 : ti44.size = 1 := by kernel_rfl
@[go_sem] theorem tib44 : ti44.bytes = 24 := by kernel_rfl
noncomputable def zv44 : Value := (ti44.zero).getD Go.undef
@[go_sem] theorem tiz44 : ti44.zero = some zv44 := by kernel_rfl
@[go_sem ↓] theorem zvs44 : zv44.cells.size = 1 := by kernel_rfl
@[go_sem ↓] theorem zvo44 : zv44.cells.toList.all (fun v => v.oneCell') = true := by kernel_rfl
@[go_sem ↓] theorem zvv44 : zv44.cells.toList.map vOf = [.sl [] true] := by kernel_rfl
@[go_sem] theorem und_48 : Try.prog.underlying 48 = some (.slice 52) := by kernel_rfl
noncomputable def ti48 : TypeInfo := (Try.prog.info? 48).getD default
@[go_sem] theorem inf_48 : Try.prog.info? 48 = some ti48 := by kernel_rfl
@[go_sem] theorem tis48 : ti48.size = 1 := by kernel_rfl
@[go_sem] theorem tib48 : ti48.bytes = 24 := by kernel_rfl
noncomputable def zv48 : Value := (ti48.zero).getD Go.undef
@[go_sem] theorem tiz48 : ti48.zero = some zv48 := by kernel_rfl
@[go_sem ↓] theorem zvs48 : zv48.cells.size = 1 := by kernel_rfl
@[go_sem ↓] theorem zvo48 : zv48.cells.toList.all (fun v => v.oneCell') = true := by kernel_rfl
@[go_sem ↓] theorem zvv48 : zv48.cells.toList.map vOf = [.sl [] true] := by kernel_rfl
noncomputable def fs52 : Array Field := match Try.prog.underlying 52 with | some (.struct fs) => fs | _ => #[]
@[go_sem] theorem und_52 : Try.prog.underlying 52 = some (.struct fs52) := by kernel_rfl
noncomputable def fd52_0 : Field := (fs52[0]?).getD default
@[go_sem] theorem fg52_0 : fs52[0]? = some fd52_0 := by kernel_rfl
@[go_sem] theorem ft52_0 : fd52_0.type = 3 := by kernel_rfl
@[go_sem] theorem fo52_0 : fd52_0.offset = 0 := by kernel_rfl
noncomputable def fd52_1 : Field := (fs52[1]?).getD default
@[go_sem] theorem fg52_1 : fs52[1]? = some fd52_1 := by kernel_rfl
@[go_sem] theorem ft52_1 : fd52_1.type = 9 := by kernel_rfl
@[go_sem] theorem fo52_1 : fd52_1.offset = 1 := by kernel_rfl
@[go_sem] theorem pl52 : fs52.toList.mapM (fun f => (Try.prog.info? f.type).map fun i => (f.offset, i.size)) = some [(0, 1), (1, 1)] := by kernel_rfl
noncomputable def ti52 : TypeInfo := (Try.prog.info? 52).getD default
@[go_sem] theorem inf_52 : Try.prog.info? 52 = some ti52 := by kernel_rfl
@[go_sem] theorem tis52 : ti52.size = 2 := by kernel_rfl
@[go_sem] theorem tib52 : ti52.bytes = 24 := by kernel_rfl
noncomputable def zv52 : Value := (ti52.zero).getD Go.undef
@[go_sem] theorem tiz52 : ti52.zero = some zv52 := by kernel_rfl
@[go_sem ↓] theorem zvs52 : zv52.cells.size = 2 := by kernel_rfl
@[go_sem ↓] theorem zvo52 : zv52.cells.toList.all (fun v => v.oneCell') = true := by kernel_rfl
@[go_sem ↓] theorem zvv52 : zv52.cells.toList.map vOf = [.int .i64 0, .str ⟨#[]⟩] := by kernel_rfl
@[go_sem] theorem und_57 : Try.prog.underlying 57 = some (.slice 4) := by kernel_rfl
noncomputable def ti57 : TypeInfo := (Try.prog.info? 57).getD default
@[go_sem] theorem inf_57 : Try.prog.info? 57 = some ti57 := by kernel_rfl
@[go_sem] theorem tis57 : ti57.size = 1 := by kernel_rfl
@[go_sem] theorem tib57 : ti57.bytes = 24 := by kernel_rfl
noncomputable def zv57 : Value := (ti57.zero).getD Go.undef
@[go_sem] theorem tiz57 : ti57.zero = some zv57 := by kernel_rfl
@[go_sem ↓] theorem zvs57 : zv57.cells.size = 1 := by kernel_rfl
@[go_sem ↓] theorem zvo57 : zv57.cells.toList.all (fun v => v.oneCell') = true := by kernel_rfl
@[go_sem ↓] theorem zvv57 : zv57.cells.toList.map vOf = [.sl [] true] := by kernel_rfl
@[go_sem] theorem und_58 : Try.prog.underlying 58 = some (.slice 5) := by kernel_rfl
noncomputable def ti58 : TypeInfo := (Try.prog.info? 58).getD default
@[go_sem] theorem inf_58 : Try.prog.info? 58 = some ti58 := by kernel_rfl
@[go_sem] theorem tis58 : ti58.size = 1 := by kernel_rfl
@[go_sem] theorem tib58 : ti58.bytes = 24 := by kernel_rfl
noncomputable def zv58 : Value := (ti58.zero).getD Go.undef
@[go_sem] theorem tiz58 : ti58.zero = some zv58 := by kernel_rfl
@[go_sem ↓] theorem zvs58 : zv58.cells.size = 1 := by kernel_rfl
@[go_sem ↓] theorem zvo58 : zv58.cells.toList.all (fun v => v.oneCell') = true := by kernel_rfl
@[go_sem ↓] theorem zvv58 : zv58.cells.toList.map vOf = [.sl [] true] := by kernel_rfl
@[go_sem] theorem und_62 : Try.prog.underlying 62 = some (.slice 66) := by kernel_rfl
noncomputable def ti62 : TypeInfo := (Try.prog.info? 62).getD default
@[go_sem] theorem inf_62 : Try.prog.info? 62 = some ti62 := by kernel_rfl
@[go_sem] theorem tis62 : ti62.size = 1 := by kernel_rfl
@[go_sem] theorem tib62 : ti62.bytes = 24 := by kernel_rfl
noncomputable def zv62 : Value := (ti62.zero).getD Go.undef
@[go_sem] theorem tiz62 : ti62.zero = some zv62 := by kernel_rfl
@[go_sem ↓] theorem zvs62 : zv62.cells.size = 1 := by kernel_rfl
@[go_sem ↓] theorem zvo62 : zv62.cells.toList.all (fun v => v.oneCell') = true := by kernel_rfl
@[go_sem ↓] theorem zvv62 : zv62.cells.toList.map vOf = [.sl [] true] := by kernel_rfl
noncomputable def fs66 : Array Field := match Try.prog.underlying 66 with | some (.struct fs) => fs | _ => #[]
@[go_sem] theorem und_66 : Try.prog.underlying 66 = some (.struct fs66) := by kernel_rfl
noncomputable def fd66_0 : Field := (fs66[0]?).getD default
@[go_sem] theorem fg66_0 : fs66[0]? = some fd66_0 := by kernel_rfl
@[go_sem] theorem ft66_0 : fd66_0.type = 3 := by kernel_rfl
@[go_sem] theorem fo66_0 : fd66_0.offset = 0 := by kernel_rfl
noncomputable def fd66_1 : Field := (fs66[1]?).getD default
@[go_sem] theorem fg66_1 : fs66[1]? = some fd66_1 := by kernel_rfl
@[go_sem] theorem ft66_1 : fd66_1.type = 3 := by kernel_rfl
@[go_sem] theorem fo66_1 : fd66_1.offset = 1 := by kernel_rfl
noncomputable def fd66_2 : Field := (fs66[2]?).getD default
@[go_sem] theorem fg66_2 : fs66[2]? = some fd66_2 := by kernel_rfl
@[go_sem] theorem ft66_2 : fd66_2.type = 43 := by kernel_rfl
@[go_sem] theorem fo66_2 : fd66_2.offset = 2 := by kernel_rfl
noncomputable def fd66_3 : Field := (fs66[3]?).getD default
@[go_sem] theorem fg66_3 : fs66[3]? = some fd66_3 := by kernel_rfl
@[go_sem] theorem ft66_3 : fd66_3.type = 25 := by kernel_rfl
@[go_sem] theorem fo66_3 : fd66_3.offset = 6 := by kernel_rfl
@[go_sem] theorem pl66 : fs66.toList.mapM (fun f => (Try.prog.info? f.type).map fun i => (f.offset, i.size)) = some [(0, 1), (1, 1), (2, 4), (6, 1)] := by kernel_rfl
noncomputable def ti66 : TypeInfo := (Try.prog.info? 66).getD default
@[go_sem] theorem inf_66 : Try.prog.info? 66 = some ti66 := by kernel_rfl
@[go_sem] theorem tis66 : ti66.size = 7 := by kernel_rfl
@[go_sem] theorem tib66 : ti66.bytes = 64 := by kernel_rfl
noncomputable def zv66 : Value := (ti66.zero).getD Go.undef
@[go_sem] theorem tiz66 : ti66.zero = some zv66 := by kernel_rfl
@[go_sem ↓] theorem zvs66 : zv66.cells.size = 7 := by kernel_rfl
@[go_sem ↓] theorem zvo66 : zv66.cells.toList.all (fun v => v.oneCell') = true := by kernel_rfl
@[go_sem ↓] theorem zvv66 : zv66.cells.toList.map vOf = [.int .i64 0, .int .i64 0, .int .i8 0, .int .i64 0, .str ⟨#[]⟩, .int .i64 0, .int .u64 0] := by kernel_rfl
@[go_sem] theorem und_96 : Try.prog.underlying 96 = some (.int .u64) := by kernel_rfl
noncomputable def ti96 : TypeInfo := (Try.prog.info? 96).getD default
@[go_sem] theorem inf_96 : Try.prog.info? 96 = some ti96 := by kernel_rfl
@[go_sem] theorem tis96 : ti96.size = 1 := by kernel_rfl
@[go_sem] theorem tib96 : ti96.bytes = 8 := by kernel_rfl
noncomputable def zv96 : Value := (ti96.zero).getD Go.undef
@[go_sem] theorem tiz96 : ti96.zero = some zv96 := by kernel_rfl
@[go_sem ↓] theorem zvs96 : zv96.cells.size = 1 := by kernel_rfl
@[go_sem ↓] theorem zvo96 : zv96.cells.toList.all (fun v => v.oneCell') = true := by kernel_rfl
@[go_sem ↓] theorem zvv96 : zv96.cells.toList.map vOf = [.int .u64 0] := by kernel_rfl
@[go_sem] theorem und_101 : Try.prog.underlying 101 = some (.pointer 104) := by kernel_rfl
noncomputable def ti101 : TypeInfo := (Try.prog.info? 101).getD default
@[go_sem] theorem inf_101 : Try.prog.info? 101 = some ti101 := by kernel_rfl
@[go_sem] theorem tis101 : ti101.size = 1 := by kernel_rfl
@[go_sem] theorem tib101 : ti101.bytes = 8 := by kernel_rfl
noncomputable def zv101 : Value := (ti101.zero).getD Go.undef
@[go_sem] theorem tiz101 : ti101.zero = some zv101 := by kernel_rfl
@[go_sem ↓] theorem zvs101 : zv101.cells.size = 1 := by kernel_rfl
@[go_sem ↓] theorem zvo101 : zv101.cells.toList.all (fun v => v.oneCell') = true := by kernel_rfl
@[go_sem ↓] theorem zvv101 : zv101.cells.toList.map vOf = [.nilp] := by kernel_rfl
noncomputable def fs104 : Array Field := match Try.prog.underlying 104 with | some (.struct fs) => fs | _ => #[]
@[go_sem] theorem und_104 : Try.prog.underlying 104 = some (.struct fs104) := by kernel_rfl
noncomputable def fd104_0 : Field := (fs104[0]?).getD default
@[go_sem] theorem fg104_0 : fs104[0]? = some fd104_0 := by kernel_rfl
@[go_sem] theorem ft104_0 : fd104_0.type = 36 := by kernel_rfl
@[go_sem] theorem fo104_0 : fd104_0.offset = 0 := by kernel_rfl
@[go_sem] theorem pl104 : fs104.toList.mapM (fun f => (Try.prog.info? f.type).map fun i => (f.offset, i.size)) = some [(0, 5)] := by kernel_rfl
noncomputable def ti104 : TypeInfo := (Try.prog.info? 104).getD default
@[go_sem] theorem inf_104 : Try.prog.info? 104 = some ti104 := by kernel_rfl
@[go_sem] theorem tis104 : ti104.size = 5 := by kernel_rfl
@[go_sem] theorem tib104 : ti104.bytes = 104 := by kernel_rfl
noncomputable def zv104 : Value := (ti104.zero).getD Go.undef
@[go_sem] theorem tiz104 : ti104.zero = some zv104 := by kernel_rfl
@[go_sem ↓] theorem zvs104 : zv104.cells.size = 5 := by kernel_rfl
@[go_sem ↓] theorem zvo104 : zv104.cells.toList.all (fun v => v.oneCell') = true := by kernel_rfl
@[go_sem ↓] theorem zvv104 : zv104.cells.toList.map vOf = [.sl [] true, .sl [] true, .sl [] true, .int .i64 0, .sl [] true] := by kernel_rfl
@[go_sem] theorem und_136 : Try.prog.underlying 136 = some (.int .i64) := by kernel_rfl
noncomputable def ti136 : TypeInfo := (Try.prog.info? 136).getD default
@[go_sem] theorem inf_136 : Try.prog.info? 136 = some ti136 := by kernel_rfl
@[go_sem] theorem tis136 : ti136.size = 1 := by kernel_rfl
@[go_sem] theorem tib136 : ti136.bytes = 8 := by kernel_rfl
noncomputable def zv136 : Value := (ti136.zero).getD Go.undef
@[go_sem] theorem tiz136 : ti136.zero = some zv136 := by kernel_rfl
@[go_sem ↓] theorem zvs136 : zv136.cells.size = 1 := by kernel_rfl
@[go_sem ↓] theorem zvo136 : zv136.cells.toList.all (fun v => v.oneCell') = true := by kernel_rfl
@[go_sem ↓] theorem zvv136 : zv136.cells.toList.map vOf = [.int .i64 0] := by kernel_rfl
@[go_sem] theorem und_167 : Try.prog.underlying 167 = some (.int .i64) := by kernel_rfl
noncomputable def ti167 : TypeInfo := (Try.prog.info? 167).getD default
@[go_sem] theorem inf_167 : Try.prog.info? 167 = some ti167 := by kernel_rfl
@[go_sem] theorem tis167 : ti167.size = 1 := by kernel_rfl
@[go_sem] theorem tib167 : ti167.bytes = 8 := by kernel_rfl
noncomputable def zv167 : Value := (ti167.zero).getD Go.undef
@[go_sem] theorem tiz167 : ti167.zero = some zv167 := by kernel_rfl
@[go_sem ↓] theorem zvs167 : zv167.cells.size = 1 := by kernel_rfl
@[go_sem ↓] theorem zvo167 : zv167.cells.toList.all (fun v => v.oneCell') = true := by kernel_rfl
@[go_sem ↓] theorem zvv167 : zv167.cells.toList.map vOf = [.int .i64 0] := by kernel_rfl
@[go_sem] theorem und_175 : Try.prog.underlying 175 = some (.int .u32) := by kernel_rfl
noncomputable def ti175 : TypeInfo := (Try.prog.info? 175).getD default
@[go_sem] theorem inf_175 : Try.prog.info? 175 = some ti175 := by kernel_rfl
@[go_sem] theorem tis175 : ti175.size = 1 := by kernel_rfl
@[go_sem] theorem tib175 : ti175.bytes = 4 := by kernel_rfl
noncomputable def zv175 : Value := (ti175.zero).getD Go.undef
@[go_sem] theorem tiz175 : ti175.zero = some zv175 := by kernel_rfl
@[go_sem ↓] theorem zvs175 : zv175.cells.size = 1 := by kernel_rfl
@[go_sem ↓] theorem zvo175 : zv175.cells.toList.all (fun v => v.oneCell') = true := by kernel_rfl
@[go_sem ↓] theorem zvv175 : zv175.cells.toList.map vOf = [.int .u32 0] := by kernel_rfl
@[go_sem] theorem und_182 : Try.prog.underlying 182 = some (.int .u64) := by kernel_rfl
noncomputable def ti182 : TypeInfo := (Try.prog.info? 182).getD default
@[go_sem] theorem inf_182 : Try.prog.info? 182 = some ti182 := by kernel_rfl
@[go_sem] theorem tis182 : ti182.size = 1 := by kernel_rfl
@[go_sem] theorem tib182 : ti182.bytes = 8 := by kernel_rfl
noncomputable def zv182 : Value := (ti182.zero).getD Go.undef
@[go_sem] theorem tiz182 : ti182.zero = some zv182 := by kernel_rfl
@[go_sem ↓] theorem zvs182 : zv182.cells.size = 1 := by kernel_rfl
@[go_sem ↓] theorem zvo182 : zv182.cells.toList.all (fun v => v.oneCell') = true := by kernel_rfl
@[go_sem ↓] theorem zvv182 : zv182.cells.toList.map vOf = [.int .u64 0] := by kernel_rfl
@[go_sem] theorem und_186 : Try.prog.underlying 186 = some (.pointer 3) := by kernel_rfl
noncomputable def ti186 : TypeInfo := (Try.prog.info? 186).getD default
@[go_sem] theorem inf_186 : Try.prog.info? 186 = some ti186 := by kernel_rfl
@[go_sem] theorem tis186 : ti186.size = 1 := by kernel_rfl
@[go_sem] theorem tib186 : ti186.bytes = 8 := by kernel_rfl
noncomputable def zv186 : Value := (ti186.zero).getD Go.undef
@[go_sem] theorem tiz186 : ti186.zero = some zv186 := by kernel_rfl
@[go_sem ↓] theorem zvs186 : zv186.cells.size = 1 := by kernel_rfl
@[go_sem ↓] theorem zvo186 : zv186.cells.toList.all (fun v => v.oneCell') = true := by kernel_rfl
@[go_sem ↓] theorem zvv186 : zv186.cells.toList.map vOf = [.nilp] := by kernel_rfl
@[go_sem] theorem und_189 : Try.prog.underlying 189 = some (.pointer 182) := by kernel_rfl
noncomputable def ti189 : TypeInfo := (Try.prog.info? 189).getD default
@[go_sem] theorem inf_189 : Try.prog.info? 189 = some ti189 := by kernel_rfl
@[go_sem] theorem tis189 : ti189.size = 1 := by kernel_rfl
@[go_sem] theorem tib189 : ti189.bytes = 8 := by kernel_rfl
noncomputable def zv189 : Value := (ti189.zero).getD Go.undef
@[go_sem] theorem tiz189 : ti189.zero = some zv189 := by kernel_rfl
@[go_sem ↓] theorem zvs189 : zv189.cells.size = 1 := by kernel_rfl
@[go_sem ↓] theorem zvo189 : zv189.cells.toList.all (fun v => v.oneCell') = true := by kernel_rfl
@[go_sem ↓] theorem zvv189 : zv189.cells.toList.map vOf = [.nilp] := by kernel_rfl
@[go_sem] theorem und_197 : Try.prog.underlying 197 = some (.array 16 175) := by kernel_rfl
noncomputable def ti197 : TypeInfo := (Try.prog.info? 197).getD default
@[go_sem] theorem inf_197 : Try.prog.info? 197 = some ti197 := by kernel_rfl
@[go_sem] theorem tis197 : ti197.size = 16 := by kernel_rfl
@[go_sem] theorem tib197 : ti197.bytes = 64 := by kernel_rfl
noncomputable def zv197 : Value := (ti197.zero).getD Go.undef
@[go_sem] theorem tiz197 : ti197.zero = some zv197 := by kernel_rfl
@[go_sem ↓] theorem zvs197 : zv197.cells.size = 16 := by kernel_rfl
@[go_sem ↓] theorem zvo197 : zv197.cells.toList.all (fun v => v.oneCell') = true := by kernel_rfl
@[go_sem ↓] theorem zvv197 : zv197.cells.toList.map vOf = [.int .u32 0, .int .u32 0, .int .u32 0, .int .u32 0, .int .u32 0, .int .u32 0, .int .u32 0, .int .u32 0, .int .u32 0, .int .u32 0, .int .u32 0, .int .u32 0, .int .u32 0, .int .u32 0, .int .u32 0, .int .u32 0] := by kernel_rfl
theorem mixed : Try.prog.follows .mixedOrders = true := by kernel_rfl
end Go.Proofs.Ytllijcnbjbfabaa
