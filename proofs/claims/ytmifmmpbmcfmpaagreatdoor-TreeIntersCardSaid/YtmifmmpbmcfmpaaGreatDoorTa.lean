import Derived.Test.YtmifmmpbmcfmpaaGreatDoorSc
import Derived.Test.YtmifmmpbmcfmpaaGreatDoorProg
import Derived.KernelRfl
set_option linter.unusedVariables false
set_option linter.unusedSimpArgs false
namespace Go.Proofs.YtmifmmpbmcfmpaaGreatDoor.S2T
open Go Go.S2
set_option maxRecDepth 100000
noncomputable def ti1 : TI := ⟨1, 8, .func, [.nilFunc]⟩
noncomputable def ti2 : TI := ⟨1, 8, .int .i64, [.int .i64 0]⟩
noncomputable def ti3 : TI := ⟨1, 8, .int .i64, [.int .i64 0]⟩
noncomputable def ti4 : TI := ⟨1, 1, .bool, [.bool false]⟩
noncomputable def ti5 : TI := ⟨1, 1, .int .u8, [.int .u8 0]⟩
noncomputable def ti6 : TI := ⟨1, 1, .int .u8, [.int .u8 0]⟩
noncomputable def ti7 : TI := ⟨4, 24, .struct [(0, 2), (1, 3), (2, 4), (3, 6)], [.int .i64 0, .int .i64 0, .bool false, .int .u8 0]⟩
noncomputable def ti8 : TI := ⟨4, 24, .struct [(0, 2), (1, 3), (2, 4), (3, 6)], [.int .i64 0, .int .i64 0, .bool false, .int .u8 0]⟩
noncomputable def ti9 : TI := ⟨1, 16, .string, [.str []]⟩
noncomputable def ti10 : TI := ⟨1, 16, .string, [.str []]⟩
noncomputable def ti11 : TI := ⟨1, 16, .string, [.str []]⟩
noncomputable def ti12 : TI := ⟨1, 8, .int .u64, [.int .u64 0]⟩
noncomputable def ti13 : TI := ⟨2, 24, .struct [(0, 9), (1, 12)], [.str [], .int .u64 0]⟩
noncomputable def ti14 : TI := ⟨2, 24, .struct [(0, 9), (1, 12)], [.str [], .int .u64 0]⟩
noncomputable def ti15 : TI := ⟨1, 8, .pointer 254, [.ptr none]⟩
noncomputable def ti16 : TI := ⟨1, 8, .pointer 257, [.ptr none]⟩
noncomputable def ti17 : TI := ⟨1, 8, .pointer 264, [.ptr none]⟩
noncomputable def ti18 : TI := ⟨1, 8, .struct [(0, 17)], [.ptr none]⟩
noncomputable def ti19 : TI := ⟨1, 8, .struct [(0, 17)], [.ptr none]⟩
noncomputable def ti20 : TI := ⟨1, 16, .iface true, [.nilIface]⟩
noncomputable def ti21 : TI := ⟨1, 4, .int .i32, [.int .i32 0]⟩
noncomputable def ti22 : TI := ⟨1, 8, .func, [.nilFunc]⟩
noncomputable def ti23 : TI := ⟨1, 24, .slice 25, [.slice none 0 0 true]⟩
noncomputable def ti24 : TI := ⟨5, 72, .struct [(0, 3), (1, 9), (2, 9), (3, 3), (4, 23)], [.int .i64 0, .str [], .str [], .int .i64 0, .slice none 0 0 true]⟩
noncomputable def ti25 : TI := ⟨5, 72, .struct [(0, 3), (1, 9), (2, 9), (3, 3), (4, 23)], [.int .i64 0, .str [], .str [], .int .i64 0, .slice none 0 0 true]⟩
noncomputable def ti26 : TI := ⟨1, 8, .int .i64, [.int .i64 0]⟩
noncomputable def ti28 : TI := ⟨1, 8, .func, [.nilFunc]⟩
noncomputable def ti29 : TI := ⟨1, 8, .func, [.nilFunc]⟩
noncomputable def ti30 : TI := ⟨1, 8, .func, [.nilFunc]⟩
noncomputable def ti32 : TI := ⟨1, 8, .func, [.nilFunc]⟩
noncomputable def ti34 : TI := ⟨1, 8, .func, [.nilFunc]⟩
noncomputable def ti35 : TI := ⟨1, 8, .func, [.nilFunc]⟩
noncomputable def ti36 : TI := ⟨1, 8, .func, [.nilFunc]⟩
noncomputable def ti37 : TI := ⟨1, 8, .func, [.nilFunc]⟩
noncomputable def ti38 : TI := ⟨1, 8, .pointer 43, [.ptr none]⟩
noncomputable def ti39 : TI := ⟨1, 8, .func, [.nilFunc]⟩
noncomputable def ti40 : TI := ⟨1, 8, .func, [.nilFunc]⟩
noncomputable def ti41 : TI := ⟨1, 24, .slice 72, [.slice none 0 0 true]⟩
noncomputable def ti42 : TI := ⟨2, 32, .struct [(0, 41), (1, 3)], [.slice none 0 0 true, .int .i64 0]⟩
noncomputable def ti43 : TI := ⟨2, 32, .struct [(0, 41), (1, 3)], [.slice none 0 0 true, .int .i64 0]⟩
noncomputable def ti44 : TI := ⟨1, 8, .func, [.nilFunc]⟩
noncomputable def ti45 : TI := ⟨1, 8, .pointer 48, [.ptr none]⟩
noncomputable def ti46 : TI := ⟨1, 24, .slice 5, [.slice none 0 0 true]⟩
noncomputable def ti47 : TI := ⟨4, 72, .struct [(0, 9), (1, 3), (2, 46), (3, 23)], [.str [], .int .i64 0, .slice none 0 0 true, .slice none 0 0 true]⟩
noncomputable def ti48 : TI := ⟨4, 72, .struct [(0, 9), (1, 3), (2, 46), (3, 23)], [.str [], .int .i64 0, .slice none 0 0 true, .slice none 0 0 true]⟩
noncomputable def ti49 : TI := ⟨1, 8, .pointer 54, [.ptr none]⟩
noncomputable def ti50 : TI := ⟨1, 8, .pointer 52, [.ptr none]⟩
noncomputable def ti51 : TI := ⟨2, 32, .struct [(0, 50), (1, 46)], [.ptr none, .slice none 0 0 true]⟩
noncomputable def ti52 : TI := ⟨2, 32, .struct [(0, 50), (1, 46)], [.ptr none, .slice none 0 0 true]⟩
noncomputable def ti53 : TI := ⟨4, 72, .struct [(0, 9), (1, 52), (3, 23)], [.str [], .ptr none, .slice none 0 0 true, .slice none 0 0 true]⟩
noncomputable def ti54 : TI := ⟨4, 72, .struct [(0, 9), (1, 52), (3, 23)], [.str [], .ptr none, .slice none 0 0 true, .slice none 0 0 true]⟩
noncomputable def ti55 : TI := ⟨1, 8, .func, [.nilFunc]⟩
noncomputable def ti56 : TI := ⟨1, 16, .iface false, [.nilIface]⟩
noncomputable def ti57 : TI := ⟨1, 16, .iface false, [.nilIface]⟩
noncomputable def ti58 : TI := ⟨1, 8, .func, [.nilFunc]⟩
noncomputable def ti59 : TI := ⟨1, 8, .func, [.nilFunc]⟩
noncomputable def ti61 : TI := ⟨1, 8, .func, [.nilFunc]⟩
noncomputable def ti62 : TI := ⟨1, 8, .func, [.nilFunc]⟩
noncomputable def ti63 : TI := ⟨1, 8, .func, [.nilFunc]⟩
noncomputable def ti64 : TI := ⟨1, 8, .func, [.nilFunc]⟩
noncomputable def ti65 : TI := ⟨1, 8, .func, [.nilFunc]⟩
noncomputable def ti66 : TI := ⟨1, 8, .map 9 105, [.map none]⟩
noncomputable def ti67 : TI := ⟨2, 16, .struct [(0, 66), (1, 4)], [.map none, .bool false]⟩
noncomputable def ti68 : TI := ⟨2, 16, .struct [(0, 66), (1, 4)], [.map none, .bool false]⟩
noncomputable def ti69 : TI := ⟨1, 8, .func, [.nilFunc]⟩
noncomputable def ti70 : TI := ⟨1, 8, .map 9 9, [.map none]⟩
noncomputable def ti71 : TI := ⟨6, 72, .struct [(0, 3), (1, 3), (2, 9), (3, 9), (4, 9), (5, 3)], [.int .i64 0, .int .i64 0, .str [], .str [], .str [], .int .i64 0]⟩
noncomputable def ti72 : TI := ⟨6, 72, .struct [(0, 3), (1, 3), (2, 9), (3, 9), (4, 9), (5, 3)], [.int .i64 0, .int .i64 0, .str [], .str [], .str [], .int .i64 0]⟩
noncomputable def ti73 : TI := ⟨1, 8, .func, [.nilFunc]⟩
noncomputable def ti74 : TI := ⟨1, 8, .func, [.nilFunc]⟩
noncomputable def ti75 : TI := ⟨1, 8, .func, [.nilFunc]⟩
noncomputable def ti76 : TI := ⟨1, 8, .func, [.nilFunc]⟩
noncomputable def ti78 : TI := ⟨1, 8, .func, [.nilFunc]⟩
noncomputable def ti80 : TI := ⟨1, 8, .func, [.nilFunc]⟩
noncomputable def ti81 : TI := ⟨1, 8, .func, [.nilFunc]⟩
noncomputable def ti82 : TI := ⟨1, 24, .slice 3, [.slice none 0 0 true]⟩
noncomputable def ti84 : TI := ⟨1, 8, .func, [.nilFunc]⟩
noncomputable def ti85 : TI := ⟨1, 8, .func, [.nilFunc]⟩
noncomputable def ti87 : TI := ⟨1, 8, .func, [.nilFunc]⟩
noncomputable def ti89 : TI := ⟨1, 8, .func, [.nilFunc]⟩
noncomputable def ti91 : TI := ⟨1, 8, .func, [.nilFunc]⟩
noncomputable def ti92 : TI := ⟨1, 8, .func, [.nilFunc]⟩
noncomputable def ti93 : TI := ⟨1, 8, .func, [.nilFunc]⟩
noncomputable def ti94 : TI := ⟨1, 8, .pointer 5, [.ptr none]⟩
noncomputable def ti95 : TI := ⟨1, 8, .func, [.nilFunc]⟩
noncomputable def ti96 : TI := ⟨1, 24, .slice 4, [.slice none 0 0 true]⟩
noncomputable def ti98 : TI := ⟨1, 8, .func, [.nilFunc]⟩
noncomputable def ti99 : TI := ⟨1, 8, .struct [(0, 3)], [.int .i64 0]⟩
noncomputable def ti100 : TI := ⟨1, 8, .struct [(0, 3)], [.int .i64 0]⟩
noncomputable def ti102 : TI := ⟨1, 8, .func, [.nilFunc]⟩
noncomputable def ti103 : TI := ⟨1, 8, .func, [.nilFunc]⟩
noncomputable def ti104 : TI := ⟨2, 24, .struct [(0, 3), (1, 9)], [.int .i64 0, .str []]⟩
noncomputable def ti105 : TI := ⟨2, 24, .struct [(0, 3), (1, 9)], [.int .i64 0, .str []]⟩
noncomputable def ti107 : TI := ⟨1, 8, .func, [.nilFunc]⟩
noncomputable def ti108 : TI := ⟨1, 8, .func, [.nilFunc]⟩
noncomputable def ti109 : TI := ⟨1, 8, .func, [.nilFunc]⟩
noncomputable def ti110 : TI := ⟨1, 8, .func, [.nilFunc]⟩
noncomputable def ti112 : TI := ⟨1, 8, .func, [.nilFunc]⟩
noncomputable def ti113 : TI := ⟨1, 8, .func, [.nilFunc]⟩
noncomputable def ti114 : TI := ⟨1, 8, .func, [.nilFunc]⟩
noncomputable def ti115 : TI := ⟨1, 8, .func, [.nilFunc]⟩
noncomputable def ti116 : TI := ⟨1, 8, .func, [.nilFunc]⟩
noncomputable def ti117 : TI := ⟨1, 8, .func, [.nilFunc]⟩
noncomputable def ti119 : TI := ⟨1, 8, .func, [.nilFunc]⟩
noncomputable def ti121 : TI := ⟨1, 8, .func, [.nilFunc]⟩
noncomputable def ti122 : TI := ⟨1, 8, .int .u64, [.int .u64 0]⟩
noncomputable def ti124 : TI := ⟨1, 8, .func, [.nilFunc]⟩
noncomputable def ti125 : TI := ⟨1, 8, .func, [.nilFunc]⟩
noncomputable def ti126 : TI := ⟨1, 8, .func, [.nilFunc]⟩
noncomputable def ti127 : TI := ⟨1, 8, .func, [.nilFunc]⟩
noncomputable def ti128 : TI := ⟨1, 8, .other, [.ptr none]⟩
noncomputable def ti129 : TI := ⟨1, 8, .func, [.nilFunc]⟩
noncomputable def ti130 : TI := ⟨1, 8, .pointer 133, [.ptr none]⟩
noncomputable def ti131 : TI := ⟨1, 8, .map 3 3, [.map none]⟩
noncomputable def ti132 : TI := ⟨8, 120, .struct [(0, 9), (1, 3), (2, 4), (3, 41), (4, 96), (5, 82), (6, 131), (7, 3)], [.str [], .int .i64 0, .bool false, .slice none 0 0 true, .slice none 0 0 true, .slice none 0 0 true, .map none, .int .i64 0]⟩
noncomputable def ti133 : TI := ⟨8, 120, .struct [(0, 9), (1, 3), (2, 4), (3, 41), (4, 96), (5, 82), (6, 131), (7, 3)], [.str [], .int .i64 0, .bool false, .slice none 0 0 true, .slice none 0 0 true, .slice none 0 0 true, .map none, .int .i64 0]⟩
noncomputable def ti134 : TI := ⟨1, 8, .int .i64, [.int .i64 0]⟩
noncomputable def ti136 : TI := ⟨1, 8, .func, [.nilFunc]⟩
noncomputable def ti137 : TI := ⟨3, 32, .struct [(0, 3), (1, 3), (2, 9)], [.int .i64 0, .int .i64 0, .str []]⟩
noncomputable def ti138 : TI := ⟨3, 32, .struct [(0, 3), (1, 3), (2, 9)], [.int .i64 0, .int .i64 0, .str []]⟩
noncomputable def ti140 : TI := ⟨1, 8, .map 9 138, [.map none]⟩
noncomputable def ti141 : TI := ⟨1, 8, .func, [.nilFunc]⟩
noncomputable def ti142 : TI := ⟨1, 8, .func, [.nilFunc]⟩
noncomputable def ti143 : TI := ⟨1, 24, .slice 9, [.slice none 0 0 true]⟩
noncomputable def ti144 : TI := ⟨1, 8, .func, [.nilFunc]⟩
noncomputable def ti145 : TI := ⟨1, 8, .func, [.nilFunc]⟩
noncomputable def ti146 : TI := ⟨1, 8, .func, [.nilFunc]⟩
noncomputable def ti147 : TI := ⟨1, 8, .func, [.nilFunc]⟩
noncomputable def ti148 : TI := ⟨1, 8, .func, [.nilFunc]⟩
noncomputable def ti149 : TI := ⟨256, 256, .array 256 4, (List.replicate 256 (.bool false))⟩
noncomputable def ti150 : TI := ⟨256, 256, .array 256 4, (List.replicate 256 (.bool false))⟩
noncomputable def ti152 : TI := ⟨1, 8, .func, [.nilFunc]⟩
noncomputable def ti153 : TI := ⟨1, 8, .func, [.nilFunc]⟩
noncomputable def ti154 : TI := ⟨1, 8, .pointer 150, [.ptr none]⟩
noncomputable def ti155 : TI := ⟨1, 4, .int .u32, [.int .u32 0]⟩
noncomputable def ti156 : TI := ⟨1, 8, .func, [.nilFunc]⟩
noncomputable def ti157 : TI := ⟨1, 8, .func, [.nilFunc]⟩
noncomputable def ti158 : TI := ⟨1, 8, .func, [.nilFunc]⟩
noncomputable def ti159 : TI := ⟨1, 8, .func, [.nilFunc]⟩
noncomputable def ti160 : TI := ⟨1, 8, .func, [.nilFunc]⟩
noncomputable def ti161 : TI := ⟨1, 8, .func, [.nilFunc]⟩
noncomputable def ti163 : TI := ⟨1, 8, .map 5 3, [.map none]⟩
noncomputable def ti164 : TI := ⟨1, 8, .func, [.nilFunc]⟩
noncomputable def ti165 : TI := ⟨1, 8, .int .i64, [.int .i64 0]⟩
noncomputable def ti166 : TI := ⟨1, 8, .func, [.nilFunc]⟩
noncomputable def ti167 : TI := ⟨1, 8, .int .u64, [.int .u64 0]⟩
noncomputable def ti168 : TI := ⟨1, 8, .pointer 182, [.ptr none]⟩
noncomputable def ti169 : TI := ⟨1, 8, .func, [.nilFunc]⟩
noncomputable def ti170 : TI := ⟨1, 8, .func, [.nilFunc]⟩
noncomputable def ti171 : TI := ⟨1, 8, .func, [.nilFunc]⟩
noncomputable def ti172 : TI := ⟨1, 8, .func, [.nilFunc]⟩
noncomputable def ti173 : TI := ⟨1, 8, .func, [.nilFunc]⟩
noncomputable def ti174 : TI := ⟨16, 128, .array 8 68, [.map none, .bool false, .map none, .bool false, .map none, .bool false, .map none, .bool false, .map none, .bool false, .map none, .bool false, .map none, .bool false, .map none, .bool false]⟩
noncomputable def ti175 : TI := ⟨1, 8, .func, [.nilFunc]⟩
noncomputable def ti176 : TI := ⟨1, 8, .func, [.nilFunc]⟩
noncomputable def ti177 : TI := ⟨256, 256, .array 256 5, (List.replicate 256 (.int .u8 0))⟩
noncomputable def ti178 : TI := ⟨1, 8, .func, [.nilFunc]⟩
noncomputable def ti179 : TI := ⟨1, 8, .func, [.nilFunc]⟩
noncomputable def ti180 : TI := ⟨1, 8, .func, [.nilFunc]⟩
noncomputable def ti181 : TI := ⟨3, 48, .struct [(0, 9), (1, 9), (2, 57)], [.str [], .str [], .nilIface]⟩
noncomputable def ti182 : TI := ⟨3, 48, .struct [(0, 9), (1, 9), (2, 57)], [.str [], .str [], .nilIface]⟩
noncomputable def ti183 : TI := ⟨1, 8, .func, [.nilFunc]⟩
noncomputable def ti184 : TI := ⟨1, 8, .func, [.nilFunc]⟩
noncomputable def ti186 : TI := ⟨1, 8, .func, [.nilFunc]⟩
noncomputable def ti187 : TI := ⟨1, 8, .func, [.nilFunc]⟩
noncomputable def ti189 : TI := ⟨1, 8, .func, [.nilFunc]⟩
noncomputable def ti190 : TI := ⟨1, 8, .func, [.nilFunc]⟩
noncomputable def ti191 : TI := ⟨1, 8, .func, [.nilFunc]⟩
noncomputable def ti192 : TI := ⟨1, 8, .func, [.nilFunc]⟩
noncomputable def ti193 : TI := ⟨1, 8, .func, [.nilFunc]⟩
noncomputable def ti194 : TI := ⟨1, 8, .func, [.nilFunc]⟩
noncomputable def ti195 : TI := ⟨1, 8, .func, [.nilFunc]⟩
noncomputable def ti196 : TI := ⟨1, 8, .func, [.nilFunc]⟩
noncomputable def ti197 : TI := ⟨1, 8, .func, [.nilFunc]⟩
noncomputable def ti198 : TI := ⟨1, 8, .func, [.nilFunc]⟩
noncomputable def ti199 : TI := ⟨1, 24, .slice 201, [.slice none 0 0 true]⟩
noncomputable def ti200 : TI := ⟨2, 16, .struct [(0, 3), (1, 3)], [.int .i64 0, .int .i64 0]⟩
noncomputable def ti201 : TI := ⟨2, 16, .struct [(0, 3), (1, 3)], [.int .i64 0, .int .i64 0]⟩
noncomputable def ti202 : TI := ⟨1, 8, .func, [.nilFunc]⟩
noncomputable def ti203 : TI := ⟨1, 8, .pointer 218, [.ptr none]⟩
noncomputable def ti205 : TI := ⟨1, 8, .func, [.nilFunc]⟩
noncomputable def ti206 : TI := ⟨1, 8, .pointer 208, [.ptr none]⟩
noncomputable def ti207 : TI := ⟨1, 16, .struct [(0, 9)], [.str []]⟩
noncomputable def ti208 : TI := ⟨1, 16, .struct [(0, 9)], [.str []]⟩
noncomputable def ti209 : TI := ⟨2, 2, .struct [(0, 5), (1, 5)], [.int .u8 0, .int .u8 0]⟩
noncomputable def ti210 : TI := ⟨2, 2, .struct [(0, 5), (1, 5)], [.int .u8 0, .int .u8 0]⟩
noncomputable def ti211 : TI := ⟨32, 32, .array 16 210, (List.replicate 32 (.int .u8 0))⟩
noncomputable def ti212 : TI := ⟨1, 8, .func, [.nilFunc]⟩
noncomputable def ti213 : TI := ⟨1, 8, .map 9 3, [.map none]⟩
noncomputable def ti214 : TI := ⟨1, 8, .func, [.nilFunc]⟩
noncomputable def ti215 : TI := ⟨1, 24, .slice 221, [.slice none 0 0 true]⟩
noncomputable def ti216 : TI := ⟨1, 24, .slice 224, [.slice none 0 0 true]⟩
noncomputable def ti217 : TI := ⟨3, 56, .struct [(0, 215), (1, 216), (2, 3)], [.slice none 0 0 true, .slice none 0 0 true, .int .i64 0]⟩
noncomputable def ti218 : TI := ⟨3, 56, .struct [(0, 215), (1, 216), (2, 3)], [.slice none 0 0 true, .slice none 0 0 true, .int .i64 0]⟩
noncomputable def ti219 : TI := ⟨1, 2, .int .u16, [.int .u16 0]⟩
noncomputable def ti220 : TI := ⟨3, 6, .struct [(0, 219), (1, 219), (2, 219)], [.int .u16 0, .int .u16 0, .int .u16 0]⟩
noncomputable def ti221 : TI := ⟨3, 6, .struct [(0, 219), (1, 219), (2, 219)], [.int .u16 0, .int .u16 0, .int .u16 0]⟩
noncomputable def ti222 : TI := ⟨1, 8, .func, [.nilFunc]⟩
noncomputable def ti223 : TI := ⟨3, 12, .struct [(0, 155), (1, 155), (2, 155)], [.int .u32 0, .int .u32 0, .int .u32 0]⟩
noncomputable def ti224 : TI := ⟨3, 12, .struct [(0, 155), (1, 155), (2, 155)], [.int .u32 0, .int .u32 0, .int .u32 0]⟩
noncomputable def ti225 : TI := ⟨1, 8, .func, [.nilFunc]⟩
noncomputable def ti226 : TI := ⟨1, 8, .func, [.nilFunc]⟩
noncomputable def ti227 : TI := ⟨1, 8, .func, [.nilFunc]⟩
noncomputable def ti228 : TI := ⟨1, 8, .func, [.nilFunc]⟩
noncomputable def ti229 : TI := ⟨1, 8, .func, [.nilFunc]⟩
noncomputable def ti230 : TI := ⟨1, 8, .pointer 221, [.ptr none]⟩
noncomputable def ti231 : TI := ⟨1, 8, .pointer 224, [.ptr none]⟩
noncomputable def ti232 : TI := ⟨24, 24, .array 24 5, (List.replicate 24 (.int .u8 0))⟩
noncomputable def ti233 : TI := ⟨1, 8, .func, [.nilFunc]⟩
noncomputable def ti234 : TI := ⟨1, 8, .func, [.nilFunc]⟩
noncomputable def ti236 : TI := ⟨1, 8, .func, [.nilFunc]⟩
noncomputable def ti237 : TI := ⟨1, 8, .func, [.nilFunc]⟩
noncomputable def ti238 : TI := ⟨1, 8, .func, [.nilFunc]⟩
noncomputable def ti239 : TI := ⟨1, 8, .func, [.nilFunc]⟩
noncomputable def ti240 : TI := ⟨1, 8, .func, [.nilFunc]⟩
noncomputable def ti241 : TI := ⟨1, 8, .func, [.nilFunc]⟩
noncomputable def ti242 : TI := ⟨20, 160, .array 20 122, (List.replicate 20 (.int .u64 0))⟩
noncomputable def ti243 : TI := ⟨65, 65, .array 65 5, (List.replicate 65 (.int .u8 0))⟩
noncomputable def ti244 : TI := ⟨1, 8, .func, [.nilFunc]⟩
noncomputable def ti245 : TI := ⟨1, 8, .func, [.nilFunc]⟩
noncomputable def ti246 : TI := ⟨1, 8, .map 4 9, [.map none]⟩
noncomputable def ti247 : TI := ⟨1, 8, .func, [.nilFunc]⟩
noncomputable def ti248 : TI := ⟨1, 8, .func, [.nilFunc]⟩
noncomputable def ti249 : TI := ⟨32, 32, .array 32 5, (List.replicate 32 (.int .u8 0))⟩
noncomputable def ti250 : TI := ⟨64, 64, .array 64 5, (List.replicate 64 (.int .u8 0))⟩
noncomputable def ti251 : TI := ⟨1, 8, .func, [.nilFunc]⟩
noncomputable def ti252 : TI := ⟨1, 8, .func, [.nilFunc]⟩
noncomputable def ti253 : TI := ⟨4, 40, .struct [(0, 17), (1, 17), (2, 17), (3, 9)], [.ptr none, .ptr none, .ptr none, .str []]⟩
noncomputable def ti254 : TI := ⟨4, 40, .struct [(0, 17), (1, 17), (2, 17), (3, 9)], [.ptr none, .ptr none, .ptr none, .str []]⟩
noncomputable def ti255 : TI := ⟨0, 0, .array 0 16, []⟩
noncomputable def ti256 : TI := ⟨0, 0, .struct [(0, 255)], []⟩
noncomputable def ti257 : TI := ⟨0, 0, .struct [(0, 255)], []⟩
noncomputable def ti258 : TI := ⟨1, 1, .int .u8, [.int .u8 0]⟩
noncomputable def ti259 : TI := ⟨1, 1, .int .u8, [.int .u8 0]⟩
noncomputable def ti260 : TI := ⟨1, 8, .func, [.nilFunc]⟩
noncomputable def ti261 : TI := ⟨1, 4, .int .i32, [.int .i32 0]⟩
noncomputable def ti262 : TI := ⟨1, 4, .int .i32, [.int .i32 0]⟩
noncomputable def ti263 : TI := ⟨11, 48, .struct [(0, 12), (1, 12), (2, 155), (3, 258), (4, 5), (5, 5), (6, 259), (7, 260), (8, 94), (9, 261), (10, 262)], [.int .u64 0, .int .u64 0, .int .u32 0, .int .u8 0, .int .u8 0, .int .u8 0, .int .u8 0, .nilFunc, .ptr none, .int .i32 0, .int .i32 0]⟩
noncomputable def ti264 : TI := ⟨11, 48, .struct [(0, 12), (1, 12), (2, 155), (3, 258), (4, 5), (5, 5), (6, 259), (7, 260), (8, 94), (9, 261), (10, 262)], [.int .u64 0, .int .u64 0, .int .u32 0, .int .u8 0, .int .u8 0, .int .u8 0, .int .u8 0, .nilFunc, .ptr none, .int .i32 0, .int .i32 0]⟩
noncomputable def tTc0 : List (Option TI) := [none, some ti1, some ti2, some ti3, some ti4, some ti5, some ti6, some ti7]
noncomputable def tTc1 : List (Option TI) := [some ti8, some ti9, some ti10, some ti11, some ti12, some ti13, some ti14, some ti15]
noncomputable def tTc2 : List (Option TI) := [some ti16, some ti17, some ti18, some ti19, some ti20, some ti21, some ti22, some ti23]
noncomputable def tTc3 : List (Option TI) := [some ti24, some ti25, some ti26, none, some ti28, some ti29, some ti30, none]
noncomputable def tTc4 : List (Option TI) := [some ti32, none, some ti34, some ti35, some ti36, some ti37, some ti38, some ti39]
noncomputable def tTc5 : List (Option TI) := [some ti40, some ti41, some ti42, some ti43, some ti44, some ti45, some ti46, some ti47]
noncomputable def tTc6 : List (Option TI) := [some ti48, some ti49, some ti50, some ti51, some ti52, some ti53, some ti54, some ti55]
noncomputable def tTc7 : List (Option TI) := [some ti56, some ti57, some ti58, some ti59, none, some ti61, some ti62, some ti63]
noncomputable def tTc8 : List (Option TI) := [some ti64, some ti65, some ti66, some ti67, some ti68, some ti69, some ti70, some ti71]
noncomputable def tTc9 : List (Option TI) := [some ti72, some ti73, some ti74, some ti75, some ti76, none, some ti78, none]
noncomputable def tTc10 : List (Option TI) := [some ti80, some ti81, some ti82, none, some ti84, some ti85, none, some ti87]
noncomputable def tTc11 : List (Option TI) := [none, some ti89, none, some ti91, some ti92, some ti93, some ti94, some ti95]
noncomputable def tTc12 : List (Option TI) := [some ti96, none, some ti98, some ti99, some ti100, none, some ti102, some ti103]
noncomputable def tTc13 : List (Option TI) := [some ti104, some ti105, none, some ti107, some ti108, some ti109, some ti110, none]
noncomputable def tTc14 : List (Option TI) := [some ti112, some ti113, some ti114, some ti115, some ti116, some ti117, none, some ti119]
noncomputable def tTc15 : List (Option TI) := [none, some ti121, some ti122, none, some ti124, some ti125, some ti126, some ti127]
noncomputable def tTc16 : List (Option TI) := [some ti128, some ti129, some ti130, some ti131, some ti132, some ti133, some ti134, none]
noncomputable def tTc17 : List (Option TI) := [some ti136, some ti137, some ti138, none, some ti140, some ti141, some ti142, some ti143]
noncomputable def tTc18 : List (Option TI) := [some ti144, some ti145, some ti146, some ti147, some ti148, some ti149, some ti150, none]
noncomputable def tTc19 : List (Option TI) := [some ti152, some ti153, some ti154, some ti155, some ti156, some ti157, some ti158, some ti159]
noncomputable def tTc20 : List (Option TI) := [some ti160, some ti161, none, some ti163, some ti164, some ti165, some ti166, some ti167]
noncomputable def tTc21 : List (Option TI) := [some ti168, some ti169, some ti170, some ti171, some ti172, some ti173, some ti174, some ti175]
noncomputable def tTc22 : List (Option TI) := [some ti176, some ti177, some ti178, some ti179, some ti180, some ti181, some ti182, some ti183]
noncomputable def tTc23 : List (Option TI) := [some ti184, none, some ti186, some ti187, none, some ti189, some ti190, some ti191]
noncomputable def tTc24 : List (Option TI) := [some ti192, some ti193, some ti194, some ti195, some ti196, some ti197, some ti198, some ti199]
noncomputable def tTc25 : List (Option TI) := [some ti200, some ti201, some ti202, some ti203, none, some ti205, some ti206, some ti207]
noncomputable def tTc26 : List (Option TI) := [some ti208, some ti209, some ti210, some ti211, some ti212, some ti213, some ti214, some ti215]
noncomputable def tTc27 : List (Option TI) := [some ti216, some ti217, some ti218, some ti219, some ti220, some ti221, some ti222, some ti223]
noncomputable def tTc28 : List (Option TI) := [some ti224, some ti225, some ti226, some ti227, some ti228, some ti229, some ti230, some ti231]
noncomputable def tTc29 : List (Option TI) := [some ti232, some ti233, some ti234, none, some ti236, some ti237, some ti238, some ti239]
noncomputable def tTc30 : List (Option TI) := [some ti240, some ti241, some ti242, some ti243, some ti244, some ti245, some ti246, some ti247]
noncomputable def tTc31 : List (Option TI) := [some ti248, some ti249, some ti250, some ti251, some ti252, some ti253, some ti254, some ti255]
noncomputable def tTc32 : List (Option TI) := [some ti256, some ti257, some ti258, some ti259, some ti260, some ti261, some ti262, some ti263]
noncomputable def tTc33 : List (Option TI) := [some ti264, none, none, none, none, none, none, none]
noncomputable def tTd0 : List (List (Option TI)) := [tTc0, tTc1, tTc2, tTc3, tTc4, tTc5, tTc6, tTc7]
noncomputable def tTd1 : List (List (Option TI)) := [tTc8, tTc9, tTc10, tTc11, tTc12, tTc13, tTc14, tTc15]
noncomputable def tTd2 : List (List (Option TI)) := [tTc16, tTc17, tTc18, tTc19, tTc20, tTc21, tTc22, tTc23]
noncomputable def tTd3 : List (List (Option TI)) := [tTc24, tTc25, tTc26, tTc27, tTc28, tTc29, tTc30, tTc31]
noncomputable def tTd4 : List (List (Option TI)) := [tTc32, tTc33]
noncomputable def tTL : List (List (List (Option TI))) := [tTd0, tTd1, tTd2, tTd3, tTd4]
noncomputable def tT : Nat → Option TI := look3 tTL
noncomputable def fTc0 : List (Option Func) := [none, none, some Go.Proofs.Tryz.f2, some Go.Proofs.Tryz.f3, some Go.Proofs.Tryz.f4, some Go.Proofs.Tryz.f5, some Go.Proofs.Tryz.f6, some Go.Proofs.Tryz.f7]
noncomputable def fTc1 : List (Option Func) := [some Go.Proofs.Tryz.f8, some Go.Proofs.Tryz.f9, some Go.Proofs.Tryz.f10, some Go.Proofs.Tryz.f11, some Go.Proofs.Tryz.f12, some Go.Proofs.Tryz.f13, some Go.Proofs.Tryz.f14, some Go.Proofs.Tryz.f15]
noncomputable def fTc2 : List (Option Func) := [some Go.Proofs.Tryz.f16, some Go.Proofs.Tryz.f17, some Go.Proofs.Tryz.f18, some Go.Proofs.Tryz.f19, some Go.Proofs.Tryz.f20, some Go.Proofs.Tryz.f21, some Go.Proofs.Tryz.f22, some Go.Proofs.Tryz.f23]
noncomputable def fTc3 : List (Option Func) := [some Go.Proofs.Tryz.f24, some Go.Proofs.Tryz.f25, some Go.Proofs.Tryz.f26, some Go.Proofs.Tryz.f27, some Go.Proofs.Tryz.f28, some Go.Proofs.Tryz.f29, some Go.Proofs.Tryz.f30, some Go.Proofs.Tryz.f31]
noncomputable def fTc4 : List (Option Func) := [some Go.Proofs.Tryz.f32, some Go.Proofs.Tryz.f33, some Go.Proofs.Tryz.f34, some Go.Proofs.Tryz.f35, some Go.Proofs.Tryz.f36, some Go.Proofs.Tryz.f37, some Go.Proofs.Tryz.f38, some Go.Proofs.Tryz.f39]
noncomputable def fTc5 : List (Option Func) := [some Go.Proofs.Tryz.f40, some Go.Proofs.Tryz.f41, some Go.Proofs.Tryz.f42, some Go.Proofs.Tryz.f43, some Go.Proofs.Tryz.f44, some Go.Proofs.Tryz.f45, some Go.Proofs.Tryz.f46, some Go.Proofs.Tryz.f47]
noncomputable def fTc6 : List (Option Func) := [some Go.Proofs.Tryz.f48, some Go.Proofs.Tryz.f49, some Go.Proofs.Tryz.f50, some Go.Proofs.Tryz.f51, some Go.Proofs.Tryz.f52, some Go.Proofs.Tryz.f53, some Go.Proofs.Tryz.f54, some Go.Proofs.Tryz.f55]
noncomputable def fTc7 : List (Option Func) := [some Go.Proofs.Tryz.f56, some Go.Proofs.Tryz.f57, some Go.Proofs.Tryz.f58, some Go.Proofs.Tryz.f59, some Go.Proofs.Tryz.f60, some Go.Proofs.Tryz.f61, some Go.Proofs.Tryz.f62, some Go.Proofs.Tryz.f63]
noncomputable def fTc8 : List (Option Func) := [some Go.Proofs.Tryz.f64, some Go.Proofs.Tryz.f65, some Go.Proofs.Tryz.f66, some Go.Proofs.Tryz.f67, some Go.Proofs.Tryz.f68, some Go.Proofs.Tryz.f69, some Go.Proofs.Tryz.f70, some Go.Proofs.Tryz.f71]
noncomputable def fTc9 : List (Option Func) := [some Go.Proofs.Tryz.f72, some Go.Proofs.Tryz.f73, some Go.Proofs.Tryz.f74, some Go.Proofs.Tryz.f75, some Go.Proofs.Tryz.f76, some Go.Proofs.Tryz.f77, some Go.Proofs.Tryz.f78, some Go.Proofs.Tryz.f79]
noncomputable def fTc10 : List (Option Func) := [some Go.Proofs.Tryz.f80, some Go.Proofs.Tryz.f81, some Go.Proofs.Tryz.f82, some Go.Proofs.Tryz.f83, some Go.Proofs.Tryz.f84, some Go.Proofs.Tryz.f85, some Go.Proofs.Tryz.f86, some Go.Proofs.Tryz.f87]
noncomputable def fTc11 : List (Option Func) := [some Go.Proofs.Tryz.f88, some Go.Proofs.Tryz.f89, some Go.Proofs.Tryz.f90, some Go.Proofs.Tryz.f91, some Go.Proofs.Tryz.f92, some Go.Proofs.Tryz.f93, some Go.Proofs.Tryz.f94, some Go.Proofs.Tryz.f95]
noncomputable def fTc12 : List (Option Func) := [some Go.Proofs.Tryz.f96, some Go.Proofs.Tryz.f97, some Go.Proofs.Tryz.f98, some Go.Proofs.Tryz.f99, none, some Go.Proofs.Tryz.f101, some Go.Proofs.Tryz.f102, some Go.Proofs.Tryz.f103]
noncomputable def fTc13 : List (Option Func) := [some Go.Proofs.Tryz.f104, some Go.Proofs.Tryz.f105, some Go.Proofs.Tryz.f106, some Go.Proofs.Tryz.f107, some Go.Proofs.Tryz.f108, some Go.Proofs.Tryz.f109, some Go.Proofs.Tryz.f110, some Go.Proofs.Tryz.f111]
noncomputable def fTc14 : List (Option Func) := [some Go.Proofs.Tryz.f112, some Go.Proofs.Tryz.f113, some Go.Proofs.Tryz.f114, some Go.Proofs.Tryz.f115, some Go.Proofs.Tryz.f116, some Go.Proofs.Tryz.f117, some Go.Proofs.Tryz.f118, some Go.Proofs.Tryz.f119]
noncomputable def fTc15 : List (Option Func) := [some Go.Proofs.Tryz.f120, some Go.Proofs.Tryz.f121, some Go.Proofs.Tryz.f122, some Go.Proofs.Tryz.f123, some Go.Proofs.Tryz.f124, some Go.Proofs.Tryz.f125, some Go.Proofs.Tryz.f126, some Go.Proofs.Tryz.f127]
noncomputable def fTc16 : List (Option Func) := [some Go.Proofs.Tryz.f128, some Go.Proofs.Tryz.f129, some Go.Proofs.Tryz.f130, some Go.Proofs.Tryz.f131, some Go.Proofs.Tryz.f132, some Go.Proofs.Tryz.f133, some Go.Proofs.Tryz.f134, some Go.Proofs.Tryz.f135]
noncomputable def fTc17 : List (Option Func) := [some Go.Proofs.Tryz.f136, some Go.Proofs.Tryz.f137, some Go.Proofs.Tryz.f138, some Go.Proofs.Tryz.f139, some Go.Proofs.Tryz.f140, some Go.Proofs.Tryz.f141, some Go.Proofs.Tryz.f142, some Go.Proofs.Tryz.f143]
noncomputable def fTc18 : List (Option Func) := [some Go.Proofs.Tryz.f144, some Go.Proofs.Tryz.f145, some Go.Proofs.Tryz.f146, some Go.Proofs.Tryz.f147, some Go.Proofs.Tryz.f148, some Go.Proofs.Tryz.f149, some Go.Proofs.Tryz.f150, some Go.Proofs.Tryz.f151]
noncomputable def fTc19 : List (Option Func) := [some Go.Proofs.Tryz.f152, some Go.Proofs.Tryz.f153, some Go.Proofs.Tryz.f154, some Go.Proofs.Tryz.f155, some Go.Proofs.Tryz.f156, some Go.Proofs.Tryz.f157, some Go.Proofs.Tryz.f158, some Go.Proofs.Tryz.f159]
noncomputable def fTc20 : List (Option Func) := [some Go.Proofs.Tryz.f160, some Go.Proofs.Tryz.f161, some Go.Proofs.Tryz.f162, some Go.Proofs.Tryz.f163, some Go.Proofs.Tryz.f164, some Go.Proofs.Tryz.f165, some Go.Proofs.Tryz.f166, some Go.Proofs.Tryz.f167]
noncomputable def fTc21 : List (Option Func) := [some Go.Proofs.Tryz.f168, some Go.Proofs.Tryz.f169, some Go.Proofs.Tryz.f170, some Go.Proofs.Tryz.f171, some Go.Proofs.Tryz.f172, some Go.Proofs.Tryz.f173, none, some Go.Proofs.Tryz.f175]
noncomputable def fTc22 : List (Option Func) := [some Go.Proofs.Tryz.f176, some Go.Proofs.Tryz.f177, some Go.Proofs.Tryz.f178, some Go.Proofs.Tryz.f179, some Go.Proofs.Tryz.f180, some Go.Proofs.Tryz.f181, some Go.Proofs.Tryz.f182, some Go.Proofs.Tryz.f183]
noncomputable def fTc23 : List (Option Func) := [some Go.Proofs.Tryz.f184, some Go.Proofs.Tryz.f185, some Go.Proofs.Tryz.f186, some Go.Proofs.Tryz.f187, some Go.Proofs.Tryz.f188, some Go.Proofs.Tryz.f189, some Go.Proofs.Tryz.f190, some Go.Proofs.Tryz.f191]
noncomputable def fTc24 : List (Option Func) := [some Go.Proofs.Tryz.f192, some Go.Proofs.Tryz.f193, some Go.Proofs.Tryz.f194, some Go.Proofs.Tryz.f195, some Go.Proofs.Tryz.f196, some Go.Proofs.Tryz.f197, some Go.Proofs.Tryz.f198, some Go.Proofs.Tryz.f199]
noncomputable def fTc25 : List (Option Func) := [some Go.Proofs.Tryz.f200, some Go.Proofs.Tryz.f201, some Go.Proofs.Tryz.f202, none, some Go.Proofs.Tryz.f204, some Go.Proofs.Tryz.f205, some Go.Proofs.Tryz.f206, some Go.Proofs.Tryz.f207]
noncomputable def fTc26 : List (Option Func) := [some Go.Proofs.Tryz.f208, some Go.Proofs.Tryz.f209, some Go.Proofs.Tryz.f210, some Go.Proofs.Tryz.f211, some Go.Proofs.Tryz.f212, some Go.Proofs.Tryz.f213, some Go.Proofs.Tryz.f214, some Go.Proofs.Tryz.f215]
noncomputable def fTc27 : List (Option Func) := [some Go.Proofs.Tryz.f216, some Go.Proofs.Tryz.f217, some Go.Proofs.Tryz.f218, some Go.Proofs.Tryz.f219, some Go.Proofs.Tryz.f220, some Go.Proofs.Tryz.f221, some Go.Proofs.Tryz.f222, some Go.Proofs.Tryz.f223]
noncomputable def fTc28 : List (Option Func) := [some Go.Proofs.Tryz.f224, some Go.Proofs.Tryz.f225, some Go.Proofs.Tryz.f226, some Go.Proofs.Tryz.f227, some Go.Proofs.Tryz.f228, some Go.Proofs.Tryz.f229, some Go.Proofs.Tryz.f230, some Go.Proofs.Tryz.f231]
noncomputable def fTc29 : List (Option Func) := [some Go.Proofs.Tryz.f232, some Go.Proofs.Tryz.f233, none, some Go.Proofs.Tryz.f235, some Go.Proofs.Tryz.f236, some Go.Proofs.Tryz.f237, some Go.Proofs.Tryz.f238, some Go.Proofs.Tryz.f239]
noncomputable def fTc30 : List (Option Func) := [some Go.Proofs.Tryz.f240, some Go.Proofs.Tryz.f241, some Go.Proofs.Tryz.f242, some Go.Proofs.Tryz.f243, some Go.Proofs.Tryz.f244, some Go.Proofs.Tryz.f245, some Go.Proofs.Tryz.f246, some Go.Proofs.Tryz.f247]
noncomputable def fTc31 : List (Option Func) := [some Go.Proofs.Tryz.f248, some Go.Proofs.Tryz.f249, some Go.Proofs.Tryz.f250, some Go.Proofs.Tryz.f251, some Go.Proofs.Tryz.f252, some Go.Proofs.Tryz.f253, some Go.Proofs.Tryz.f254, some Go.Proofs.Tryz.f255]
noncomputable def fTc32 : List (Option Func) := [some Go.Proofs.Tryz.f256, some Go.Proofs.Tryz.f257, some Go.Proofs.Tryz.f258, none, none, none, none, none]
noncomputable def fTc33 : List (Option Func) := [none, none, none, none, none, none, none, none]
noncomputable def fTc34 : List (Option Func) := [none, none, none, none, none, none, none, none]
noncomputable def fTc35 : List (Option Func) := [none, none, none, none, none, none, none, none]
noncomputable def fTc36 : List (Option Func) := [none, none, none, none, some Go.Proofs.Tryz.f292, none, none, none]
noncomputable def fTd0 : List (List (Option Func)) := [fTc0, fTc1, fTc2, fTc3, fTc4, fTc5, fTc6, fTc7]
noncomputable def fTd1 : List (List (Option Func)) := [fTc8, fTc9, fTc10, fTc11, fTc12, fTc13, fTc14, fTc15]
noncomputable def fTd2 : List (List (Option Func)) := [fTc16, fTc17, fTc18, fTc19, fTc20, fTc21, fTc22, fTc23]
noncomputable def fTd3 : List (List (Option Func)) := [fTc24, fTc25, fTc26, fTc27, fTc28, fTc29, fTc30, fTc31]
noncomputable def fTd4 : List (List (Option Func)) := [fTc32, fTc33, fTc34, fTc35, fTc36]
noncomputable def fTL : List (List (List (Option Func))) := [fTd0, fTd1, fTd2, fTd3, fTd4]
noncomputable def fT : Nat → Option Func := look3 fTL
noncomputable def eT'c0 : List (Option (List Nat)) := [none, none, none, none, some [19, 23, 26, 29], none, none, none]
noncomputable def eT'c1 : List (Option (List Nat)) := [none, none, some [6], some [9], none, some [3, 10], some [5], some [1]]
noncomputable def eT'c2 : List (Option (List Nat)) := [none, some [34, 46, 67, 69, 89, 92], some [48], some [83, 107], none, none, none, some [58, 75]]
noncomputable def eT'c3 : List (Option (List Nat)) := [none, none, none, none, none, some [4, 9], none, none]
noncomputable def eT'c4 : List (Option (List Nat)) := [some [28], none, none, none, none, none, none, none]
noncomputable def eT'c5 : List (Option (List Nat)) := [some [22, 31, 65], none, none, none, none, some [46, 86], some [8, 25, 27], none]
noncomputable def eT'c6 : List (Option (List Nat)) := [none, none, none, none, none, none, none, none]
noncomputable def eT'c7 : List (Option (List Nat)) := [none, none, none, none, none, none, none, none]
noncomputable def eT'c8 : List (Option (List Nat)) := [none, none, some [2, 3, 4, 5, 6, 13], none, none, none, none, some [9]]
noncomputable def eT'c9 : List (Option (List Nat)) := [some [31, 57], none, none, none, none, none, none, none]
noncomputable def eT'c10 : List (Option (List Nat)) := [none, none, none, some [8, 21, 39, 59], none, none, none, none]
noncomputable def eT'c11 : List (Option (List Nat)) := [none, none, none, none, some [5], none, none, none]
noncomputable def eT'c12 : List (Option (List Nat)) := [none, none, none, none, none, none, none, some [19]]
noncomputable def eT'c13 : List (Option (List Nat)) := [none, none, none, none, none, none, none, none]
noncomputable def eT'c14 : List (Option (List Nat)) := [none, none, none, none, none, none, none, none]
noncomputable def eT'c15 : List (Option (List Nat)) := [none, none, none, none, none, none, none, none]
noncomputable def eT'c16 : List (Option (List Nat)) := [none, none, none, none, some [2, 3], none, none, none]
noncomputable def eT'c17 : List (Option (List Nat)) := [none, none, none, none, none, none, none, some [10]]
noncomputable def eT'c18 : List (Option (List Nat)) := [some [10], some [15], some [15], none, none, none, none, none]
noncomputable def eT'c19 : List (Option (List Nat)) := [none, none, none, none, none, none, none, none]
noncomputable def eT'c20 : List (Option (List Nat)) := [none, none, none, none, none, none, some [1, 9, 11, 13, 15, 17], none]
noncomputable def eT'c21 : List (Option (List Nat)) := [none, none, none, none, none, none, none, none]
noncomputable def eT'c22 : List (Option (List Nat)) := [none, none, some [5], none, none, none, none, none]
noncomputable def eT'c23 : List (Option (List Nat)) := [none, none, none, none, none, some [6], some [8], none]
noncomputable def eT'c24 : List (Option (List Nat)) := [none, none, none, none, some [1], none, some [32], none]
noncomputable def eT'c25 : List (Option (List Nat)) := [some [14, 26, 36], none, none, none, none, none, none, none]
noncomputable def eT'c26 : List (Option (List Nat)) := [none, none, none, none, some [3], none, none, none]
noncomputable def eT'c27 : List (Option (List Nat)) := [none, some [17], some [37], none, none, some [5], none, none]
noncomputable def eT'c28 : List (Option (List Nat)) := [none, none, none, some [21, 30, 34], none, none, none, none]
noncomputable def eT'c29 : List (Option (List Nat)) := [none, some [12], none, none, some [32], some [57, 78, 105], none, some [69]]
noncomputable def eT'c30 : List (Option (List Nat)) := [some [7], none, none, none, none, none, none, some [20]]
noncomputable def eT'c31 : List (Option (List Nat)) := [none, none, none, some [67], none, none, none, none]
noncomputable def eT'c32 : List (Option (List Nat)) := [none, none, none, none, none, none, none, none]
noncomputable def eT'c33 : List (Option (List Nat)) := [none, none, none, none, none, none, none, none]
noncomputable def eT'c34 : List (Option (List Nat)) := [none, none, none, none, none, none, none, none]
noncomputable def eT'c35 : List (Option (List Nat)) := [none, none, none, none, none, none, none, none]
noncomputable def eT'c36 : List (Option (List Nat)) := [none, none, none, none, some [18, 20], none, none, none]
noncomputable def eT'd0 : List (List (Option (List Nat))) := [eT'c0, eT'c1, eT'c2, eT'c3, eT'c4, eT'c5, eT'c6, eT'c7]
noncomputable def eT'd1 : List (List (Option (List Nat))) := [eT'c8, eT'c9, eT'c10, eT'c11, eT'c12, eT'c13, eT'c14, eT'c15]
noncomputable def eT'd2 : List (List (Option (List Nat))) := [eT'c16, eT'c17, eT'c18, eT'c19, eT'c20, eT'c21, eT'c22, eT'c23]
noncomputable def eT'd3 : List (List (Option (List Nat))) := [eT'c24, eT'c25, eT'c26, eT'c27, eT'c28, eT'c29, eT'c30, eT'c31]
noncomputable def eT'd4 : List (List (Option (List Nat))) := [eT'c32, eT'c33, eT'c34, eT'c35, eT'c36]
noncomputable def eT'L : List (List (List (Option (List Nat)))) := [eT'd0, eT'd1, eT'd2, eT'd3, eT'd4]
noncomputable def eT' : Nat → Option (List Nat) := look3 eT'L
noncomputable def kT'c0 : List (Option (List (Nat × List Nat))) := [none, none, none, none, none, none, none, none]
noncomputable def kT'c1 : List (Option (List (Nat × List Nat))) := [none, none, some [(2, [0, 2, 3, 6])], some [(3, [0, 2, 3, 4, 9])], some [(4, [0, 1, 4, 5])], none, none, none]
noncomputable def kT'c2 : List (Option (List (Nat × List Nat))) := [some [(2, [0, 2, 3])], none, none, none, none, none, none, none]
noncomputable def kT'c3 : List (Option (List (Nat × List Nat))) := [none, none, none, none, none, none, none, none]
noncomputable def kT'c4 : List (Option (List (Nat × List Nat))) := [some [(2, [0, 2, 4, 6, 7])], some [(3, [2, 3, 9])], none, none, none, none, none, none]
noncomputable def kT'c5 : List (Option (List (Nat × List Nat))) := [none, none, none, none, some [(3, [0, 2, 3])], none, none, some [(4, [0, 2, 3, 4, 5])]]
noncomputable def kT'c6 : List (Option (List (Nat × List Nat))) := [some [(3, [0, 2, 3, 4])], none, some [(4, [0, 2, 3])], none, none, some [(4, [0, 2, 3, 4])], none, none]
noncomputable def kT'c7 : List (Option (List (Nat × List Nat))) := [none, some [(2, [0, 2, 3])], none, none, none, none, none, none]
noncomputable def kT'c8 : List (Option (List (Nat × List Nat))) := [none, none, none, none, none, some [(3, [2, 3, 4, 5, 12, 13, 14])], none, none]
noncomputable def kT'c9 : List (Option (List (Nat × List Nat))) := [none, none, none, none, none, none, some [(3, [0, 1, 4, 5, 6, 7, 8])], none]
noncomputable def kT'c10 : List (Option (List (Nat × List Nat))) := [some [(6, [0, 2, 3])], none, none, none, none, none, none, some [(2, [0, 2, 3])]]
noncomputable def kT'c11 : List (Option (List (Nat × List Nat))) := [some [(3, [0, 2, 3, 4])], none, none, none, none, none, none, none]
noncomputable def kT'c12 : List (Option (List (Nat × List Nat))) := [none, some [(2, [0, 2, 3])], none, none, none, none, some [(0, [0])], none]
noncomputable def kT'c13 : List (Option (List (Nat × List Nat))) := [none, some [(2, [1, 2, 5, 6, 7])], none, none, none, none, none, none]
noncomputable def kT'c14 : List (Option (List (Nat × List Nat))) := [none, none, none, some [(36, [1, 6, 7, 8, 9, 10, 11, 12, 13, 99, 100, 101])], none, some [(1, [0, 1, 4])], some [(1, [0, 1, 4])], some [(2, [0, 2, 3, 4])]]
noncomputable def kT'c15 : List (Option (List (Nat × List Nat))) := [some [(1, [0, 1, 4])], some [(1, [0, 1, 4])], some [(1, [0, 1, 4])], some [(1, [0, 1, 4])], none, none, some [(2, [0, 1, 4, 5])], none]
noncomputable def kT'c16 : List (Option (List (Nat × List Nat))) := [none, none, some [(0, [0]), (4, [0])], some [(10, [0, 2])], none, none, none, none]
noncomputable def kT'c17 : List (Option (List (Nat × List Nat))) := [none, some [(2, [0, 1, 4, 7, 8])], some [(5, [0, 2, 3, 4, 5, 6]), (18, [0, 2, 9, 10, 12]), (21, [0, 2, 9, 10, 11, 12]), (27, [0, 2, 9, 10, 12])], none, some [(15, [0, 1, 4, 5, 6, 7, 8, 9, 10])], none, some [(10, [0, 2, 3, 4, 5])], none]
noncomputable def kT'c18 : List (Option (List (Nat × List Nat))) := [none, none, none, none, none, none, some [(10, [0, 2, 3, 4, 5, 6])], none]
noncomputable def kT'c19 : List (Option (List (Nat × List Nat))) := [none, some [(10, [2, 3, 5, 6, 47, 48, 49])], none, none, none, none, none, none]
noncomputable def kT'c20 : List (Option (List (Nat × List Nat))) := [none, none, none, none, some [(8, [0, 2, 88, 89, 90])], none, none, none]
noncomputable def kT'c21 : List (Option (List (Nat × List Nat))) := [some [(2, [0, 1, 4, 7, 8])], none, some [(4, [0, 1, 4, 5, 6, 14]), (16, [0, 4, 9, 47, 48, 49])], none, none, none, none, none]
noncomputable def kT'c22 : List (Option (List (Nat × List Nat))) := [some [(5, [0, 1, 4, 5, 6, 7, 8, 9]), (11, [0, 1, 4, 5, 6, 7, 8, 10])], none, none, none, none, some [(38, [4, 175]), (5, [0, 4, 7, 8, 9]), (12, [0, 4, 7, 8, 9, 12]), (25, [0, 4, 7, 8, 9, 14, 15]), (29, [0, 4, 7, 8, 9, 14, 15, 16])], none, none]
noncomputable def kT'c23 : List (Option (List (Nat × List Nat))) := [none, none, some [(3, [0, 1, 6, 7])], some [(3, [0, 1, 4, 5, 6])], some [(3, [0, 1, 4, 5, 6])], none, some [(12, [0, 1, 4, 5, 39, 40, 41]), (22, [1, 4, 8, 63, 64, 65])], none]
noncomputable def kT'c24 : List (Option (List (Nat × List Nat))) := [some [(3, [0, 2, 3, 4])], some [(3, [0, 1, 4, 5, 12, 13])], some [(9, [0, 1, 2, 6, 7, 8, 10]), (12, [0, 1, 2, 6, 7, 8, 10, 11, 13, 67, 68])], none, none, none, some [(3, [0, 2, 3, 13])], none]
noncomputable def kT'c25 : List (Option (List (Nat × List Nat))) := [none, some [(3, [4, 5, 11, 12, 13])], none, none, some [(3, [0, 2, 3, 4, 5]), (8, [2, 3, 4, 6, 7, 8])], none, none, none]
noncomputable def kT'c26 : List (Option (List (Nat × List Nat))) := [some [(4, [0, 1, 2, 6, 7, 8, 9])], none, none, none, none, none, none, none]
noncomputable def kT'c27 : List (Option (List (Nat × List Nat))) := [none, none, some [(2, [0, 2, 3, 4])], some [(3, [0, 1, 4, 19, 20]), (14, [0, 1, 4, 7, 8])], some [(3, [0, 1, 4, 15, 16]), (14, [0, 1, 4, 7, 8])], none, none, none]
noncomputable def kT'c28 : List (Option (List (Nat × List Nat))) := [none, none, some [(19, [2, 3, 7, 73, 74, 75])], none, none, none, none, none]
noncomputable def kT'c29 : List (Option (List (Nat × List Nat))) := [some [(1, [0, 1, 4])], some [(11, [0, 1, 3, 4, 10, 11, 12, 13, 14, 15, 16]), (18, [0, 1, 3, 4, 10, 11, 12, 13, 17])], none, none, none, none, none, none]
noncomputable def kT'c30 : List (Option (List (Nat × List Nat))) := [none, none, none, none, none, none, none, some [(7, [0, 4, 5])]]
noncomputable def kT'c31 : List (Option (List (Nat × List Nat))) := [none, none, none, none, none, none, none, none]
noncomputable def kT'c32 : List (Option (List (Nat × List Nat))) := [none, none, none, none, none, none, none, none]
noncomputable def kT'c33 : List (Option (List (Nat × List Nat))) := [none, none, none, none, none, none, none, none]
noncomputable def kT'c34 : List (Option (List (Nat × List Nat))) := [none, none, none, none, none, none, none, none]
noncomputable def kT'c35 : List (Option (List (Nat × List Nat))) := [none, none, none, none, none, none, none, none]
noncomputable def kT'c36 : List (Option (List (Nat × List Nat))) := [none, none, none, none, none, none, none, none]
noncomputable def kT'd0 : List (List (Option (List (Nat × List Nat)))) := [kT'c0, kT'c1, kT'c2, kT'c3, kT'c4, kT'c5, kT'c6, kT'c7]
noncomputable def kT'd1 : List (List (Option (List (Nat × List Nat)))) := [kT'c8, kT'c9, kT'c10, kT'c11, kT'c12, kT'c13, kT'c14, kT'c15]
noncomputable def kT'd2 : List (List (Option (List (Nat × List Nat)))) := [kT'c16, kT'c17, kT'c18, kT'c19, kT'c20, kT'c21, kT'c22, kT'c23]
noncomputable def kT'd3 : List (List (Option (List (Nat × List Nat)))) := [kT'c24, kT'c25, kT'c26, kT'c27, kT'c28, kT'c29, kT'c30, kT'c31]
noncomputable def kT'd4 : List (List (Option (List (Nat × List Nat)))) := [kT'c32, kT'c33, kT'c34, kT'c35, kT'c36]
noncomputable def kT'L : List (List (List (Option (List (Nat × List Nat))))) := [kT'd0, kT'd1, kT'd2, kT'd3, kT'd4]
noncomputable def kT' : Nat → Option (List (Nat × List Nat)) := look3 kT'L
noncomputable def findK : List (Nat × List Nat) → Nat → Option (List Nat)
  | [], _ => none
  | (i, l) :: r, j => match Nat.beq i j with
    | true => some l
    | false => findK r j
noncomputable def kT (t i : Nat) : Option (List Nat) := match kT' t with | some l => findK l i | none => none
noncomputable def eT (t : Nat) : List Nat := match eT' t with | some l => l | none => []

theorem fTc0_ok : allO (fun f fn => Go.Proofs.Tryz.prog.funcs[f]? = some fn) 0 fTc0 := ⟨Go.Proofs.Tryz.func2, Go.Proofs.Tryz.func3, Go.Proofs.Tryz.func4, Go.Proofs.Tryz.func5, Go.Proofs.Tryz.func6, Go.Proofs.Tryz.func7, trivial⟩
theorem fTc1_ok : allO (fun f fn => Go.Proofs.Tryz.prog.funcs[f]? = some fn) 8 fTc1 := ⟨Go.Proofs.Tryz.func8, Go.Proofs.Tryz.func9, Go.Proofs.Tryz.func10, Go.Proofs.Tryz.func11, Go.Proofs.Tryz.func12, Go.Proofs.Tryz.func13, Go.Proofs.Tryz.func14, Go.Proofs.Tryz.func15, trivial⟩
theorem fTc2_ok : allO (fun f fn => Go.Proofs.Tryz.prog.funcs[f]? = some fn) 16 fTc2 := ⟨Go.Proofs.Tryz.func16, Go.Proofs.Tryz.func17, Go.Proofs.Tryz.func18, Go.Proofs.Tryz.func19, Go.Proofs.Tryz.func20, Go.Proofs.Tryz.func21, Go.Proofs.Tryz.func22, Go.Proofs.Tryz.func23, trivial⟩
theorem fTc3_ok : allO (fun f fn => Go.Proofs.Tryz.prog.funcs[f]? = some fn) 24 fTc3 := ⟨Go.Proofs.Tryz.func24, Go.Proofs.Tryz.func25, Go.Proofs.Tryz.func26, Go.Proofs.Tryz.func27, Go.Proofs.Tryz.func28, Go.Proofs.Tryz.func29, Go.Proofs.Tryz.func30, Go.Proofs.Tryz.func31, trivial⟩
theorem fTc4_ok : allO (fun f fn => Go.Proofs.Tryz.prog.funcs[f]? = some fn) 32 fTc4 := ⟨Go.Proofs.Tryz.func32, Go.Proofs.Tryz.func33, Go.Proofs.Tryz.func34, Go.Proofs.Tryz.func35, Go.Proofs.Tryz.func36, Go.Proofs.Tryz.func37, Go.Proofs.Tryz.func38, Go.Proofs.Tryz.func39, trivial⟩
theorem fTc5_ok : allO (fun f fn => Go.Proofs.Tryz.prog.funcs[f]? = some fn) 40 fTc5 := ⟨Go.Proofs.Tryz.func40, Go.Proofs.Tryz.func41, Go.Proofs.Tryz.func42, Go.Proofs.Tryz.func43, Go.Proofs.Tryz.func44, Go.Proofs.Tryz.func45, Go.Proofs.Tryz.func46, Go.Proofs.Tryz.func47, trivial⟩
theorem fTc6_ok : allO (fun f fn => Go.Proofs.Tryz.prog.funcs[f]? = some fn) 48 fTc6 := ⟨Go.Proofs.Tryz.func48, Go.Proofs.Tryz.func49, Go.Proofs.Tryz.func50, Go.Proofs.Tryz.func51, Go.Proofs.Tryz.func52, Go.Proofs.Tryz.func53, Go.Proofs.Tryz.func54, Go.Proofs.Tryz.func55, trivial⟩
theorem fTc7_ok : allO (fun f fn => Go.Proofs.Tryz.prog.funcs[f]? = some fn) 56 fTc7 := ⟨Go.Proofs.Tryz.func56, Go.Proofs.Tryz.func57, Go.Proofs.Tryz.func58, Go.Proofs.Tryz.func59, Go.Proofs.Tryz.func60, Go.Proofs.Tryz.func61, Go.Proofs.Tryz.func62, Go.Proofs.Tryz.func63, trivial⟩
theorem fTc8_ok : allO (fun f fn => Go.Proofs.Tryz.prog.funcs[f]? = some fn) 64 fTc8 := ⟨Go.Proofs.Tryz.func64, Go.Proofs.Tryz.func65, Go.Proofs.Tryz.func66, Go.Proofs.Tryz.func67, Go.Proofs.Tryz.func68, Go.Proofs.Tryz.func69, Go.Proofs.Tryz.func70, Go.Proofs.Tryz.func71, trivial⟩
theorem fTc9_ok : allO (fun f fn => Go.Proofs.Tryz.prog.funcs[f]? = some fn) 72 fTc9 := ⟨Go.Proofs.Tryz.func72, Go.Proofs.Tryz.func73, Go.Proofs.Tryz.func74, Go.Proofs.Tryz.func75, Go.Proofs.Tryz.func76, Go.Proofs.Tryz.func77, Go.Proofs.Tryz.func78, Go.Proofs.Tryz.func79, trivial⟩
theorem fTc10_ok : allO (fun f fn => Go.Proofs.Tryz.prog.funcs[f]? = some fn) 80 fTc10 := ⟨Go.Proofs.Tryz.func80, Go.Proofs.Tryz.func81, Go.Proofs.Tryz.func82, Go.Proofs.Tryz.func83, Go.Proofs.Tryz.func84, Go.Proofs.Tryz.func85, Go.Proofs.Tryz.func86, Go.Proofs.Tryz.func87, trivial⟩
theorem fTc11_ok : allO (fun f fn => Go.Proofs.Tryz.prog.funcs[f]? = some fn) 88 fTc11 := ⟨Go.Proofs.Tryz.func88, Go.Proofs.Tryz.func89, Go.Proofs.Tryz.func90, Go.Proofs.Tryz.func91, Go.Proofs.Tryz.func92, Go.Proofs.Tryz.func93, Go.Proofs.Tryz.func94, Go.Proofs.Tryz.func95, trivial⟩
theorem fTc12_ok : allO (fun f fn => Go.Proofs.Tryz.prog.funcs[f]? = some fn) 96 fTc12 := ⟨Go.Proofs.Tryz.func96, Go.Proofs.Tryz.func97, Go.Proofs.Tryz.func98, Go.Proofs.Tryz.func99, Go.Proofs.Tryz.func101, Go.Proofs.Tryz.func102, Go.Proofs.Tryz.func103, trivial⟩
theorem fTc13_ok : allO (fun f fn => Go.Proofs.Tryz.prog.funcs[f]? = some fn) 104 fTc13 := ⟨Go.Proofs.Tryz.func104, Go.Proofs.Tryz.func105, Go.Proofs.Tryz.func106, Go.Proofs.Tryz.func107, Go.Proofs.Tryz.func108, Go.Proofs.Tryz.func109, Go.Proofs.Tryz.func110, Go.Proofs.Tryz.func111, trivial⟩
theorem fTc14_ok : allO (fun f fn => Go.Proofs.Tryz.prog.funcs[f]? = some fn) 112 fTc14 := ⟨Go.Proofs.Tryz.func112, Go.Proofs.Tryz.func113, Go.Proofs.Tryz.func114, Go.Proofs.Tryz.func115, Go.Proofs.Tryz.func116, Go.Proofs.Tryz.func117, Go.Proofs.Tryz.func118, Go.Proofs.Tryz.func119, trivial⟩
theorem fTc15_ok : allO (fun f fn => Go.Proofs.Tryz.prog.funcs[f]? = some fn) 120 fTc15 := ⟨Go.Proofs.Tryz.func120, Go.Proofs.Tryz.func121, Go.Proofs.Tryz.func122, Go.Proofs.Tryz.func123, Go.Proofs.Tryz.func124, Go.Proofs.Tryz.func125, Go.Proofs.Tryz.func126, Go.Proofs.Tryz.func127, trivial⟩
theorem fTc16_ok : allO (fun f fn => Go.Proofs.Tryz.prog.funcs[f]? = some fn) 128 fTc16 := ⟨Go.Proofs.Tryz.func128, Go.Proofs.Tryz.func129, Go.Proofs.Tryz.func130, Go.Proofs.Tryz.func131, Go.Proofs.Tryz.func132, Go.Proofs.Tryz.func133, Go.Proofs.Tryz.func134, Go.Proofs.Tryz.func135, trivial⟩
theorem fTc17_ok : allO (fun f fn => Go.Proofs.Tryz.prog.funcs[f]? = some fn) 136 fTc17 := ⟨Go.Proofs.Tryz.func136, Go.Proofs.Tryz.func137, Go.Proofs.Tryz.func138, Go.Proofs.Tryz.func139, Go.Proofs.Tryz.func140, Go.Proofs.Tryz.func141, Go.Proofs.Tryz.func142, Go.Proofs.Tryz.func143, trivial⟩
theorem fTc18_ok : allO (fun f fn => Go.Proofs.Tryz.prog.funcs[f]? = some fn) 144 fTc18 := ⟨Go.Proofs.Tryz.func144, Go.Proofs.Tryz.func145, Go.Proofs.Tryz.func146, Go.Proofs.Tryz.func147, Go.Proofs.Tryz.func148, Go.Proofs.Tryz.func149, Go.Proofs.Tryz.func150, Go.Proofs.Tryz.func151, trivial⟩
theorem fTc19_ok : allO (fun f fn => Go.Proofs.Tryz.prog.funcs[f]? = some fn) 152 fTc19 := ⟨Go.Proofs.Tryz.func152, Go.Proofs.Tryz.func153, Go.Proofs.Tryz.func154, Go.Proofs.Tryz.func155, Go.Proofs.Tryz.func156, Go.Proofs.Tryz.func157, Go.Proofs.Tryz.func158, Go.Proofs.Tryz.func159, trivial⟩
theorem fTc20_ok : allO (fun f fn => Go.Proofs.Tryz.prog.funcs[f]? = some fn) 160 fTc20 := ⟨Go.Proofs.Tryz.func160, Go.Proofs.Tryz.func161, Go.Proofs.Tryz.func162, Go.Proofs.Tryz.func163, Go.Proofs.Tryz.func164, Go.Proofs.Tryz.func165, Go.Proofs.Tryz.func166, Go.Proofs.Tryz.func167, trivial⟩
theorem fTc21_ok : allO (fun f fn => Go.Proofs.Tryz.prog.funcs[f]? = some fn) 168 fTc21 := ⟨Go.Proofs.Tryz.func168, Go.Proofs.Tryz.func169, Go.Proofs.Tryz.func170, Go.Proofs.Tryz.func171, Go.Proofs.Tryz.func172, Go.Proofs.Tryz.func173, Go.Proofs.Tryz.func175, trivial⟩
theorem fTc22_ok : allO (fun f fn => Go.Proofs.Tryz.prog.funcs[f]? = some fn) 176 fTc22 := ⟨Go.Proofs.Tryz.func176, Go.Proofs.Tryz.func177, Go.Proofs.Tryz.func178, Go.Proofs.Tryz.func179, Go.Proofs.Tryz.func180, Go.Proofs.Tryz.func181, Go.Proofs.Tryz.func182, Go.Proofs.Tryz.func183, trivial⟩
theorem fTc23_ok : allO (fun f fn => Go.Proofs.Tryz.prog.funcs[f]? = some fn) 184 fTc23 := ⟨Go.Proofs.Tryz.func184, Go.Proofs.Tryz.func185, Go.Proofs.Tryz.func186, Go.Proofs.Tryz.func187, Go.Proofs.Tryz.func188, Go.Proofs.Tryz.func189, Go.Proofs.Tryz.func190, Go.Proofs.Tryz.func191, trivial⟩
theorem fTc24_ok : allO (fun f fn => Go.Proofs.Tryz.prog.funcs[f]? = some fn) 192 fTc24 := ⟨Go.Proofs.Tryz.func192, Go.Proofs.Tryz.func193, Go.Proofs.Tryz.func194, Go.Proofs.Tryz.func195, Go.Proofs.Tryz.func196, Go.Proofs.Tryz.func197, Go.Proofs.Tryz.func198, Go.Proofs.Tryz.func199, trivial⟩
theorem fTc25_ok : allO (fun f fn => Go.Proofs.Tryz.prog.funcs[f]? = some fn) 200 fTc25 := ⟨Go.Proofs.Tryz.func200, Go.Proofs.Tryz.func201, Go.Proofs.Tryz.func202, Go.Proofs.Tryz.func204, Go.Proofs.Tryz.func205, Go.Proofs.Tryz.func206, Go.Proofs.Tryz.func207, trivial⟩
theorem fTc26_ok : allO (fun f fn => Go.Proofs.Tryz.prog.funcs[f]? = some fn) 208 fTc26 := ⟨Go.Proofs.Tryz.func208, Go.Proofs.Tryz.func209, Go.Proofs.Tryz.func210, Go.Proofs.Tryz.func211, Go.Proofs.Tryz.func212, Go.Proofs.Tryz.func213, Go.Proofs.Tryz.func214, Go.Proofs.Tryz.func215, trivial⟩
theorem fTc27_ok : allO (fun f fn => Go.Proofs.Tryz.prog.funcs[f]? = some fn) 216 fTc27 := ⟨Go.Proofs.Tryz.func216, Go.Proofs.Tryz.func217, Go.Proofs.Tryz.func218, Go.Proofs.Tryz.func219, Go.Proofs.Tryz.func220, Go.Proofs.Tryz.func221, Go.Proofs.Tryz.func222, Go.Proofs.Tryz.func223, trivial⟩
theorem fTc28_ok : allO (fun f fn => Go.Proofs.Tryz.prog.funcs[f]? = some fn) 224 fTc28 := ⟨Go.Proofs.Tryz.func224, Go.Proofs.Tryz.func225, Go.Proofs.Tryz.func226, Go.Proofs.Tryz.func227, Go.Proofs.Tryz.func228, Go.Proofs.Tryz.func229, Go.Proofs.Tryz.func230, Go.Proofs.Tryz.func231, trivial⟩
theorem fTc29_ok : allO (fun f fn => Go.Proofs.Tryz.prog.funcs[f]? = some fn) 232 fTc29 := ⟨Go.Proofs.Tryz.func232, Go.Proofs.Tryz.func233, Go.Proofs.Tryz.func235, Go.Proofs.Tryz.func236, Go.Proofs.Tryz.func237, Go.Proofs.Tryz.func238, Go.Proofs.Tryz.func239, trivial⟩
theorem fTc30_ok : allO (fun f fn => Go.Proofs.Tryz.prog.funcs[f]? = some fn) 240 fTc30 := ⟨Go.Proofs.Tryz.func240, Go.Proofs.Tryz.func241, Go.Proofs.Tryz.func242, Go.Proofs.Tryz.func243, Go.Proofs.Tryz.func244, Go.Proofs.Tryz.func245, Go.Proofs.Tryz.func246, Go.Proofs.Tryz.func247, trivial⟩
theorem fTc31_ok : allO (fun f fn => Go.Proofs.Tryz.prog.funcs[f]? = some fn) 248 fTc31 := ⟨Go.Proofs.Tryz.func248, Go.Proofs.Tryz.func249, Go.Proofs.Tryz.func250, Go.Proofs.Tryz.func251, Go.Proofs.Tryz.func252, Go.Proofs.Tryz.func253, Go.Proofs.Tryz.func254, Go.Proofs.Tryz.func255, trivial⟩
theorem fTc32_ok : allO (fun f fn => Go.Proofs.Tryz.prog.funcs[f]? = some fn) 256 fTc32 := ⟨Go.Proofs.Tryz.func256, Go.Proofs.Tryz.func257, Go.Proofs.Tryz.func258, trivial⟩
theorem fTc33_ok : allO (fun f fn => Go.Proofs.Tryz.prog.funcs[f]? = some fn) 264 fTc33 := trivial
theorem fTc34_ok : allO (fun f fn => Go.Proofs.Tryz.prog.funcs[f]? = some fn) 272 fTc34 := trivial
theorem fTc35_ok : allO (fun f fn => Go.Proofs.Tryz.prog.funcs[f]? = some fn) 280 fTc35 := trivial
theorem fTc36_ok : allO (fun f fn => Go.Proofs.Tryz.prog.funcs[f]? = some fn) 288 fTc36 := ⟨Go.Proofs.Tryz.func292, trivial⟩
theorem fTd0_ok : all2 (fun f fn => Go.Proofs.Tryz.prog.funcs[f]? = some fn) 0 fTd0 := ⟨fTc0_ok, fTc1_ok, fTc2_ok, fTc3_ok, fTc4_ok, fTc5_ok, fTc6_ok, fTc7_ok, trivial⟩
theorem fTd1_ok : all2 (fun f fn => Go.Proofs.Tryz.prog.funcs[f]? = some fn) 64 fTd1 := ⟨fTc8_ok, fTc9_ok, fTc10_ok, fTc11_ok, fTc12_ok, fTc13_ok, fTc14_ok, fTc15_ok, trivial⟩
theorem fTd2_ok : all2 (fun f fn => Go.Proofs.Tryz.prog.funcs[f]? = some fn) 128 fTd2 := ⟨fTc16_ok, fTc17_ok, fTc18_ok, fTc19_ok, fTc20_ok, fTc21_ok, fTc22_ok, fTc23_ok, trivial⟩
theorem fTd3_ok : all2 (fun f fn => Go.Proofs.Tryz.prog.funcs[f]? = some fn) 192 fTd3 := ⟨fTc24_ok, fTc25_ok, fTc26_ok, fTc27_ok, fTc28_ok, fTc29_ok, fTc30_ok, fTc31_ok, trivial⟩
theorem fTd4_ok : all2 (fun f fn => Go.Proofs.Tryz.prog.funcs[f]? = some fn) 256 fTd4 := ⟨fTc32_ok, fTc33_ok, fTc34_ok, fTc35_ok, fTc36_ok, trivial⟩
theorem fTL_ok : all3 (fun f fn => Go.Proofs.Tryz.prog.funcs[f]? = some fn) 0 fTL := ⟨fTd0_ok, fTd1_ok, fTd2_ok, fTd3_ok, fTd4_ok, trivial⟩
theorem tTL_ok : b3 (tokB Go.Proofs.Tryz.prog) 0 tTL = true := by decide +kernel
theorem fTL_ok2 : b3 (fun _ fn => fokB fn) 0 fTL = true := by decide +kernel
noncomputable def C0 : Ctx := { T := tT, F := fT, esc := eT, keep := kT, ov := ovI 203 }
theorem C0_ok : COk C0 Go.Proofs.Tryz.prog := COk.of_tables (TL := tTL) (FL := fTL) rfl rfl tTL_ok fTL_ok fTL_ok2 (by kernel_rfl)
theorem C0_good (N0 : Nat) : S2.Good C0 Go.Proofs.Tryz.prog N0 :=
  S2.Good.of_tables C0_ok rfl Go.Proofs.Tryz.func203 (by decide +kernel) (by decide +kernel) (by kernel_rfl) (by kernel_rfl)
noncomputable def M0 : Memo := ⟨[], [], .map (some 512), [some (.map [(.str [112, 114, 105, 110, 116], .agg [.int .i64 0, .int .i64 (-1), .str []]), (.str [112, 117, 115, 104], .agg [.int .i64 1, .int .i64 (-1), .str [97, 114, 114, 97, 121]]), (.str [117, 110, 115, 104, 105, 102, 116], .agg [.int .i64 1, .int .i64 (-1), .str [97, 114, 114, 97, 121]]), (.str [112, 111, 112], .agg [.int .i64 1, .int .i64 1, .str [97, 114, 114, 97, 121]]), (.str [115, 104, 105, 102, 116], .agg [.int .i64 0, .int .i64 1, .str [97, 114, 114, 97, 121]]), (.str [107, 101, 121, 115], .agg [.int .i64 1, .int .i64 1, .str [104, 97, 115, 104]]), (.str [118, 97, 108, 117, 101, 115], .agg [.int .i64 1, .int .i64 1, .str [104, 97, 115, 104]]), (.str [100, 101, 108, 101, 116, 101], .agg [.int .i64 1, .int .i64 1, .str [101, 108, 101, 109, 101, 110, 116]]), (.str [101, 120, 105, 115, 116, 115], .agg [.int .i64 1, .int .i64 1, .str [101, 108, 101, 109, 101, 110, 116]]), (.str [100, 101, 102, 105, 110, 101, 100], .agg [.int .i64 1, .int .i64 1, .str []]), (.str [115, 99, 97, 108, 97, 114], .agg [.int .i64 1, .int .i64 1, .str []]), (.str [119, 97, 110, 116, 97, 114, 114, 97, 121], .agg [.int .i64 0, .int .i64 0, .str []]), (.str [106, 111, 105, 110], .agg [.int .i64 1, .int .i64 (-1), .str []]), (.str [115, 112, 108, 105, 116], .agg [.int .i64 2, .int .i64 2, .str [112, 97, 116, 116, 101, 114, 110]]), (.str [114, 101, 118, 101, 114, 115, 101], .agg [.int .i64 0, .int .i64 (-1), .str []]), (.str [108, 101, 110, 103, 116, 104], .agg [.int .i64 1, .int .i64 1, .str []]), (.str [115, 117, 98, 115, 116, 114], .agg [.int .i64 2, .int .i64 3, .str []]), (.str [105, 110, 100, 101, 120], .agg [.int .i64 2, .int .i64 2, .str []]), (.str [117, 99], .agg [.int .i64 1, .int .i64 1, .str []]), (.str [108, 99], .agg [.int .i64 1, .int .i64 1, .str []]), (.str [111, 114, 100], .agg [.int .i64 1, .int .i64 1, .str []]), (.str [99, 104, 114], .agg [.int .i64 1, .int .i64 1, .str []]), (.str [114, 101, 102], .agg [.int .i64 1, .int .i64 1, .str []]), (.str [98, 108, 101, 115, 115], .agg [.int .i64 2, .int .i64 2, .str []]), (.str [100, 105, 101], .agg [.int .i64 0, .int .i64 (-1), .str []]), (.str [119, 101, 97, 107, 101, 110], .agg [.int .i64 1, .int .i64 1, .str [115, 99, 97, 108, 97, 114]]), (.str [116, 105, 101], .agg [.int .i64 2, .int .i64 (-1), .str [115, 99, 97, 108, 97, 114]]), (.str [117, 110, 116, 105, 101], .agg [.int .i64 1, .int .i64 1, .str [115, 99, 97, 108, 97, 114]]), (.str [105, 110, 112, 117, 116], .agg [.int .i64 0, .int .i64 0, .str []]), (.str [103, 117, 97, 114, 100], .agg [.int .i64 1, .int .i64 1, .str []]), (.str [116, 97, 105, 110, 116, 101, 100], .agg [.int .i64 1, .int .i64 1, .str []]), (.str [97, 98, 115], .agg [.int .i64 1, .int .i64 1, .str []]), (.str [117, 110, 100, 101, 102], .agg [.int .i64 0, .int .i64 1, .str [97, 110, 121]]), (.str [101, 118, 97, 108, 117, 97, 116, 101], .agg [.int .i64 1, .int .i64 1, .str []])])]⟩
noncomputable def M1 : Memo := ⟨[], [], .agg [.map (some 513), .bool false, .map (some 515), .bool true, .map (some 517), .bool true, .map (some 519), .bool true, .map (some 521), .bool false, .map (some 523), .bool false, .map (some 525), .bool true, .map (some 527), .bool true], [none, some (.map [(.str [46, 46], .agg [.int .i64 24, .str [46, 46]])]), none, some (.pm [(.str [124, 124], .agg [.int .i64 25, .str [124, 124]]), (.str [47, 47], .agg [.int .i64 25, .str [47, 47]])]), none, some (.map [(.str [38, 38], .agg [.int .i64 25, .str [38, 38]])]), none, some (.map [(.str [38], .agg [.int .i64 24, .str [38]]), (.str [124], .agg [.int .i64 24, .str [124]]), (.str [94], .agg [.int .i64 24, .str [94]])]), none, some (.map [(.str [61, 61], .agg [.int .i64 24, .str [61, 61]]), (.str [33, 61], .agg [.int .i64 24, .str [33, 61]]), (.str [60, 61, 62], .agg [.int .i64 24, .str [60, 61, 62]]), (.str [101, 113], .agg [.int .i64 24, .str [101, 113]]), (.str [110, 101], .agg [.int .i64 24, .str [110, 101]]), (.str [99, 109, 112], .agg [.int .i64 24, .str [99, 109, 112]])]), none, some (.map [(.str [60], .agg [.int .i64 24, .str [60]]), (.str [62], .agg [.int .i64 24, .str [62]]), (.str [60, 61], .agg [.int .i64 24, .str [60, 61]]), (.str [62, 61], .agg [.int .i64 24, .str [62, 61]]), (.str [108, 116], .agg [.int .i64 24, .str [108, 116]]), (.str [103, 116], .agg [.int .i64 24, .str [103, 116]]), (.str [108, 101], .agg [.int .i64 24, .str [108, 101]]), (.str [103, 101], .agg [.int .i64 24, .str [103, 101]])]), none, some (.map [(.str [43], .agg [.int .i64 24, .str [43]]), (.str [45], .agg [.int .i64 24, .str [45]]), (.str [46], .agg [.int .i64 24, .str [46]])]), none, some (.map [(.str [42], .agg [.int .i64 24, .str [42]]), (.str [47], .agg [.int .i64 24, .str [47]]), (.str [37], .agg [.int .i64 24, .str [37]]), (.str [120], .agg [.int .i64 24, .str [120]])])]⟩
noncomputable def glob0 : O := .cells [.int .u8 0, .int .u8 0, .int .u8 0, .int .u8 0, .int .u8 0, .int .u8 0, .int .u8 0, .int .u8 0, .int .u8 0, .int .u8 1, .int .u8 1, .int .u8 1, .int .u8 1, .int .u8 1, .int .u8 0, .int .u8 0, .int .u8 0, .int .u8 0, .int .u8 0, .int .u8 0, .int .u8 0, .int .u8 0, .int .u8 0, .int .u8 0, .int .u8 0, .int .u8 0, .int .u8 0, .int .u8 0, .int .u8 0, .int .u8 0, .int .u8 0, .int .u8 0, .int .u8 1, .int .u8 0, .int .u8 0, .int .u8 0, .int .u8 0, .int .u8 0, .int .u8 0, .int .u8 0, .int .u8 0, .int .u8 0, .int .u8 0, .int .u8 0, .int .u8 0, .int .u8 0, .int .u8 0, .int .u8 0, .int .u8 0, .int .u8 0, .int .u8 0, .int .u8 0, .int .u8 0, .int .u8 0, .int .u8 0, .int .u8 0, .int .u8 0, .int .u8 0, .int .u8 0, .int .u8 0, .int .u8 0, .int .u8 0, .int .u8 0, .int .u8 0, .int .u8 0, .int .u8 0, .int .u8 0, .int .u8 0, .int .u8 0, .int .u8 0, .int .u8 0, .int .u8 0, .int .u8 0, .int .u8 0, .int .u8 0, .int .u8 0, .int .u8 0, .int .u8 0, .int .u8 0, .int .u8 0, .int .u8 0, .int .u8 0, .int .u8 0, .int .u8 0, .int .u8 0, .int .u8 0, .int .u8 0, .int .u8 0, .int .u8 0, .int .u8 0, .int .u8 0, .int .u8 0, .int .u8 0, .int .u8 0, .int .u8 0, .int .u8 0, .int .u8 0, .int .u8 0, .int .u8 0, .int .u8 0, .int .u8 0, .int .u8 0, .int .u8 0, .int .u8 0, .int .u8 0, .int .u8 0, .int .u8 0, .int .u8 0, .int .u8 0, .int .u8 0, .int .u8 0, .int .u8 0, .int .u8 0, .int .u8 0, .int .u8 0, .int .u8 0, .int .u8 0, .int .u8 0, .int .u8 0, .int .u8 0, .int .u8 0, .int .u8 0, .int .u8 0, .int .u8 0, .int .u8 0, .int .u8 0, .int .u8 0, .int .u8 0, .int .u8 0, .int .u8 0, .int .u8 0, .int .u8 0, .int .u8 0, .int .u8 0, .int .u8 0, .int .u8 0, .int .u8 0, .int .u8 0, .int .u8 0, .int .u8 0, .int .u8 0, .int .u8 0, .int .u8 0, .int .u8 0, .int .u8 0, .int .u8 0, .int .u8 0, .int .u8 0, .int .u8 0, .int .u8 0, .int .u8 0, .int .u8 0, .int .u8 0, .int .u8 0, .int .u8 0, .int .u8 0, .int .u8 0, .int .u8 0, .int .u8 0, .int .u8 0, .int .u8 0, .int .u8 0, .int .u8 0, .int .u8 0, .int .u8 0, .int .u8 0, .int .u8 0, .int .u8 0, .int .u8 0, .int .u8 0, .int .u8 0, .int .u8 0, .int .u8 0, .int .u8 0, .int .u8 0, .int .u8 0, .int .u8 0, .int .u8 0, .int .u8 0, .int .u8 0, .int .u8 0, .int .u8 0, .int .u8 0, .int .u8 0, .int .u8 0, .int .u8 0, .int .u8 0, .int .u8 0, .int .u8 0, .int .u8 0, .int .u8 0, .int .u8 0, .int .u8 0, .int .u8 0, .int .u8 0, .int .u8 0, .int .u8 0, .int .u8 0, .int .u8 0, .int .u8 0, .int .u8 0, .int .u8 0, .int .u8 0, .int .u8 0, .int .u8 0, .int .u8 0, .int .u8 0, .int .u8 0, .int .u8 0, .int .u8 0, .int .u8 0, .int .u8 0, .int .u8 0, .int .u8 0, .int .u8 0, .int .u8 0, .int .u8 0, .int .u8 0, .int .u8 0, .int .u8 0, .int .u8 0, .int .u8 0, .int .u8 0, .int .u8 0, .int .u8 0, .int .u8 0, .int .u8 0, .int .u8 0, .int .u8 0, .int .u8 0, .int .u8 0, .int .u8 0, .int .u8 0, .int .u8 0, .int .u8 0, .int .u8 0, .int .u8 0, .int .u8 0, .int .u8 0, .int .u8 0, .int .u8 0, .int .u8 0, .int .u8 0, .int .u8 0, .int .u8 0, .int .u8 0, .int .u8 0, .int .u8 0, .int .u8 0, .int .u8 0, .int .u8 0, .int .u8 0, .int .u8 0, .int .u8 0, .int .u8 0, .int .u8 0] 177 true 257
noncomputable def M2 : Memo := ⟨[], [(0, glob0)], .slice (some (512, 0)) 39 39 true, [some (.cells [.str [109, 121], .str [111, 117, 114], .str [108, 111, 99, 97, 108], .str [115, 117, 98], .str [114, 101, 116, 117, 114, 110], .str [112, 97, 99, 107, 97, 103, 101], .str [108, 97, 115, 116], .str [110, 101, 120, 116], .str [105, 102], .str [117, 110, 108, 101, 115, 115], .str [101, 108, 115, 105, 102], .str [101, 108, 115, 101], .str [119, 104, 105, 108, 101], .str [117, 110, 116, 105, 108], .str [102, 111, 114], .str [100, 111], .str [101, 118, 97, 108], .str [109, 97, 112], .str [103, 114, 101, 112], .str [115, 111, 114, 116], .str [97, 110, 100], .str [111, 114], .str [110, 111, 116], .str [120], .str [108, 116], .str [103, 116], .str [108, 101], .str [103, 101], .str [101, 113], .str [110, 101], .str [99, 109, 112], .str [66, 69, 71, 73, 78], .str [69, 78, 68], .str [113], .str [113, 113], .str [113, 119], .str [109], .str [115], .str [116, 114]] 9 false 0)]⟩
noncomputable def M3 : Memo := ⟨[], [(0, glob0)], .slice (some (512, 0)) 9 9 true, [some (.cells [.str [43, 61], .str [45, 61], .str [42, 61], .str [47, 61], .str [37, 61], .str [46, 61], .str [124, 124, 61], .str [38, 38, 61], .str [47, 47, 61]] 9 false 0)]⟩
noncomputable def C1 : Ctx := Ctx.memo C0 1000 [(107, [M0]), (166, [M1]), (109, [M2]), (135, [M3])]
noncomputable def M4 : Memo := ⟨[.str [36, 120, 45, 62, 91, 49, 93, 91, 50, 93]], [], .tuple [.slice (some (539, 0)) 8 8 false, .int .i64 8, .int .i64 0], [none, none, none, none, none, none, none, none, none, none, none, none, none, none, none, none, none, none, none, none, none, none, none, none, none, none, none, some (.cells [.int .i64 2, .int .i64 0, .str [36, 120], .str [], .str [], .int .i64 0, .int .i64 3, .int .i64 2, .str [45, 62], .str [], .str [], .int .i64 0, .int .i64 3, .int .i64 4, .str [91], .str [], .str [], .int .i64 0, .int .i64 1, .int .i64 5, .str [49], .str [], .str [], .int .i64 0, .int .i64 3, .int .i64 6, .str [93], .str [], .str [], .int .i64 0, .int .i64 3, .int .i64 7, .str [91], .str [], .str [], .int .i64 0, .int .i64 1, .int .i64 8, .str [50], .str [], .str [], .int .i64 0, .int .i64 3, .int .i64 9, .str [93], .str [], .str [], .int .i64 0] 72 false 0)]⟩
noncomputable def M5 : Memo := ⟨[.str [109, 121, 32, 40, 36, 97, 44, 32, 64, 98, 41, 32, 61, 32, 64, 95, 59]], [], .tuple [.slice (some (542, 0)) 9 9 false, .int .i64 9, .int .i64 0], [none, none, none, none, none, none, none, none, none, none, none, none, none, none, none, none, none, none, none, none, none, none, none, none, none, none, none, none, none, none, some (.cells [.int .i64 0, .int .i64 0, .str [109, 121], .str [], .str [], .int .i64 0, .int .i64 3, .int .i64 3, .str [40], .str [], .str [], .int .i64 0, .int .i64 2, .int .i64 4, .str [36, 97], .str [], .str [], .int .i64 0, .int .i64 3, .int .i64 6, .str [44], .str [], .str [], .int .i64 0, .int .i64 2, .int .i64 8, .str [64, 98], .str [], .str [], .int .i64 0, .int .i64 3, .int .i64 10, .str [41], .str [], .str [], .int .i64 0, .int .i64 3, .int .i64 12, .str [61], .str [], .str [], .int .i64 0, .int .i64 2, .int .i64 14, .str [64, 95], .str [], .str [], .int .i64 0, .int .i64 3, .int .i64 16, .str [59], .str [], .str [], .int .i64 0] 72 false 0)]⟩
noncomputable def M6 : Memo := ⟨[.str [102, 40, 49, 59]], [], .tuple [.slice (some (529, 0)) 4 4 false, .int .i64 4, .int .i64 0], [none, none, none, none, none, none, none, none, none, none, none, none, none, none, none, none, none, some (.cells [.int .i64 0, .int .i64 0, .str [102], .str [], .str [], .int .i64 0, .int .i64 3, .int .i64 1, .str [40], .str [], .str [], .int .i64 0, .int .i64 1, .int .i64 2, .str [49], .str [], .str [], .int .i64 0, .int .i64 3, .int .i64 3, .str [59], .str [], .str [], .int .i64 0] 72 false 0)]⟩
noncomputable def C2 : Ctx := Ctx.memo C1 1000 [(28, [M4, M5, M6])]
noncomputable def M7 : Memo := ⟨[.str [36, 120, 45, 62, 91, 49, 93, 91, 50, 93]], [(0, glob0)], .tuple [.agg [.int .i64 8, .str [], .str [], .int .i64 0, .slice (some (1012, 0)) 2 2 true], .int .i64 8, .int .i64 0], [none, none, none, none, none, none, none, none, none, none, none, none, none, none, none, none, none, none, none, none, none, none, none, none, none, none, none, none, none, none, none, none, none, none, none, none, none, none, none, none, none, none, none, none, none, none, none, none, none, none, none, none, none, none, none, none, none, none, none, none, none, none, none, none, none, none, none, none, none, none, none, none, none, none, none, none, none, none, none, none, none, none, none, none, none, none, none, none, none, none, none, none, none, none, none, none, none, none, none, none, none, none, none, none, none, none, none, none, none, none, none, none, none, none, none, none, none, none, none, none, none, none, none, none, none, none, none, none, none, none, none, none, none, none, none, none, none, none, none, none, none, none, none, none, none, none, none, none, none, none, none, none, none, none, none, none, none, none, none, none, none, none, none, none, none, none, none, none, none, none, none, none, none, none, none, none, none, none, none, none, none, none, none, none, none, some (.cells [.int .i64 5, .str [120], .str [], .int .i64 0, .slice none 0 0 true] 25 false 0), none, none, none, none, none, none, none, none, none, none, none, none, none, none, none, none, none, none, none, none, none, none, none, none, none, none, none, none, none, none, none, none, none, none, none, none, none, none, none, none, none, none, none, none, none, none, none, none, none, none, none, none, none, none, none, none, none, none, none, none, none, none, none, none, none, none, none, none, none, none, none, none, none, none, none, none, none, none, none, none, none, none, none, none, none, none, none, none, none, none, none, none, none, none, none, none, none, none, none, none, none, none, none, none, none, none, none, none, none, none, none, none, none, none, none, none, none, none, none, none, none, none, none, none, none, none, none, none, none, none, none, none, none, none, none, none, none, none, none, none, none, none, none, none, none, none, none, none, none, none, none, none, none, none, none, none, some (.cells [.int .i64 12, .str [64], .str [], .int .i64 0, .slice (some (697, 0)) 1 1 true, .int .i64 1, .str [], .str [], .int .i64 1, .slice none 0 0 true] 25 false 0), some (.cells [.int .i64 8, .str [], .str [], .int .i64 0, .slice (some (854, 0)) 2 2 true] 25 false 0), none, none, none, none, none, none, none, none, none, none, none, none, none, none, none, none, none, none, none, none, none, none, none, none, none, none, none, none, none, none, none, none, none, none, none, none, none, none, none, none, none, none, none, none, none, none, none, none, none, none, none, none, none, none, none, none, none, none, none, none, none, none, none, none, none, none, none, none, none, none, none, none, none, none, none, none, none, none, none, none, none, none, none, none, none, none, none, none, none, none, none, none, none, none, none, none, none, none, none, none, none, none, none, none, none, none, none, none, none, none, none, none, none, none, none, none, none, none, none, none, none, none, none, none, none, none, none, none, none, none, none, none, none, none, none, none, none, none, none, none, none, none, none, none, none, none, none, none, none, none, none, none, none, none, none, none, some (.cells [.int .i64 12, .str [64], .str [], .int .i64 0, .slice (some (855, 0)) 1 1 true, .int .i64 1, .str [], .str [], .int .i64 2, .slice none 0 0 true] 25 false 0), none, none, none, none]⟩
noncomputable def M8 : Memo := ⟨[.str [109, 121, 32, 40, 36, 97, 44, 32, 64, 98, 41, 32, 61, 32, 64, 95, 59]], [(0, glob0)], .tuple [.slice (some (857, 0)) 1 1 false, .int .i64 9, .int .i64 0], [none, none, none, none, none, none, none, none, none, none, none, none, none, none, none, none, none, none, none, none, none, none, none, none, none, none, none, none, none, none, none, none, none, none, none, none, none, none, none, none, none, none, none, none, none, none, none, none, none, none, none, none, none, none, none, none, none, none, none, none, none, none, none, none, none, none, none, none, none, none, none, none, none, none, none, none, none, none, none, none, none, none, none, none, none, none, none, none, none, none, none, none, none, none, none, none, none, none, none, none, none, none, none, none, none, none, none, none, none, none, none, none, none, none, none, none, none, none, none, none, none, none, none, none, none, none, none, none, none, none, none, none, none, none, none, none, none, none, none, none, none, none, none, none, none, none, none, none, none, none, none, none, none, none, none, none, none, none, none, none, none, none, none, none, none, none, none, none, none, none, none, none, none, none, none, none, none, none, none, none, none, none, none, none, none, none, none, none, none, none, none, none, some (.cells [.int .i64 5, .str [97], .str [], .int .i64 0, .slice none 0 0 true, .int .i64 6, .str [98], .str [], .int .i64 0, .slice none 0 0 true] 25 false 0), none, none, none, none, none, none, none, none, none, none, none, none, none, none, none, none, none, none, none, none, none, none, none, none, none, none, none, none, none, none, none, none, none, none, none, none, none, none, none, none, none, none, none, none, none, none, none, none, none, none, none, none, none, none, none, none, none, none, none, none, none, none, none, none, none, none, none, none, none, none, none, none, none, none, none, none, none, none, none, none, none, none, none, none, none, none, none, none, none, none, none, none, none, none, none, none, none, none, none, none, none, none, none, none, none, none, none, none, none, none, none, none, none, none, none, none, none, none, none, none, none, none, none, none, none, none, none, none, none, none, none, none, none, none, none, none, none, none, none, none, none, none, none, none, none, none, none, none, none, some (.cells [.int .i64 4, .str [109, 121], .str [], .int .i64 1, .slice (some (704, 0)) 2 2 false, .int .i64 6, .str [95], .str [], .int .i64 0, .slice none 0 0 true] 25 false 0), some (.cells [.int .i64 27, .str [], .str [], .int .i64 0, .slice (some (854, 0)) 2 2 true] 25 false 0), none, some (.cells [.int .i64 40, .str [], .str [], .int .i64 0, .slice (some (855, 0)) 1 1 true] 25 false 0)]⟩
noncomputable def M9 : Memo := ⟨[.str [102, 40, 49, 59]], [(0, glob0)], .tuple [.slice none 0 0 true, .int .i64 3, .int .i64 2], [none, none, none, none, none, none, none, none, none, none, none, none, none, none, none, none, none, none, none, none, none, none, none, none, none, none, none, none, none, none, none, none, none, none, none, none, none, none, none, none, none, none, none, none, none, none, none, none, none, none, none, none, none, none, none, none, none, none, none, none, none, none, none, none, none, none, none, none, none, none, none, none, none, none, none, none, none, none, none, none, none, none, none, none, none, none, none, none, none, none, none, none, none, none, none, none, none, none, none, none, none, none, none, none, none, none, none, none, none, none, none, none, none, none, none, none, none, none, none, none, none, none, none, none, none, none, none, none, none, none, none, none, none, none, none, none, none, none, none, none, none, none, none, none, none, none, none, none, none, none, none, none, none, none, none, none, none, none, none, none, none, none, none, none, none, none, none, none, none, none, none, none, none, none, none, none, none, none, none, none, none, none, none, none, none, none, none, none, none, none, none, none, none, none, none, none, none, none, none, none, none, none, none, none, none, none, none, none, none, none, none, none, none, none, none, none, none, none, none, none, none, none, none, none, none, none, none, none, none, none, none, none, none, none, none, none, none, none, none, none, none, none, none, none, none, none, none, none, none, none, none, none, none, none, none, none, none, none, none, none, none, none, none, none, none, none, none, none, none, none, none, none, none, none, none, none, none, none, none, none, none, none, none, none, none, none, none, none, none, none, none, none, none, none, none, none, none, none, none, none, none, none, none, none, none, none, none, none, none, none, none, none, none, none, none, none, none, none, none, none, none, none, none, none, none, none, none, none, none, none]⟩
noncomputable def C3 : Ctx := Ctx.memo C2 1000 [(8, [M7]), (9, [M8, M9])]
noncomputable def M10 : Memo := ⟨[], [(0, glob0)], .bool true, [none, none, none, none, none, none, none, none, none, none, none, none, none, none, none, none, none, none, none, none, none, none, none, none, none, none, none, none, none, none, none, none, none, none, none, none, none, none, none, none, none, none, none, none, none, none, none, none, none, none, none, none, none, none, none, none, none, none, none, none, none, none, none, none, none, none, none, none, none, none, none, none, none, none, none, none, none, none, none, none, none, none, none, none, none, none, none, none, none, none, none, none, none, none, none, none, none, none, none, none, none, none, none, none, none, none, none, none, none, none, none, none, none, none, none, none, none, none, none, none, none, none, none, none, none, none, none, none, none, none, none, none, none, none, none, none, none, none, none, none, none, none, none, none, none, none, none, none, none, none, none, none, none, none, none, none, none, none, none, none, none, none, none, none, none, none, none, none, none, none, none, none, none, none, none, none, none, none, none, none, none, none, none, none, none, none, none, none, none, none, none, none, none, none, none, none, none, none, none, none, none, none, none, none, none, none, none, none, none, none, none, none, none, none, none, none, none, none, none, none, none, none, none, none, none, none, none, none, none, none, none, none, none, none, none, none, none, none, none, none, none, none, none, none, none, none, none, none, none, none, none, none, none, none, none, none, none, none, none, none, none, none, none, none, none, none, none, none, none, none, none, none, none, none, none, none, none, none, none, none, none, none, none, none, none, none, none, none, none, none, none, none, none, none, none, none, none, none, none, none, none, none, none, none, none, none, none, none, none, none, none, none, none, none, none, none, none, none, none, none, none, none, none, none, none, none, none, none, none, none, none, none, none, none, none, none, none, none, none, none, none, none, none, none, none, none, none, none, none, none, none, none, none, none, none, none, none, none, none, none, none, none, none, none, none, none, none, none, none, none, none, none, none, none, none, none, none, none, none, none, none, none, none, none, none, none, none, none, none, none, none, none, none, none, none, none, none, none, none, none, none, none, none, none, none, none, none, none, none, none, none, none, none, none, none, none, none, none, none, none, none, none, none, none, none, none, none, none, none, none, none, none, none, none, none, none, none, none, none, none, none, none, none, none, none, none, none, none, none, none, none, none, none, none, none, none, none, none, none, none, none, none, none, none, none, none, none, none, none, none, none, none, none, none, none, none, none, none, none, none, none, none, none, none, none, none, none, none, none, none, none, none, none, none, none, none, none, none, none, none, none, none, none, none, none, none, none, none, none, none, none, none, none, none, none, none, none, none, none, none, none, none, none, none, none, none, none, none, none, none, none, none, none, none, none, none, none, none, none, none, none, none, none, none, none, none, none, none, none, none, none, none, none, none, none, none, none, none, none, none, none, none, none, none, none, none, none, none, none, none, none, none, none, none, none, none, none, none, none, none, none, none, none, none, none, none, none, none, none, none, none, none, none, none, none, none, none, none, none, none, none, none, none, none, none, none, none, none, none, none, none, none, none, none, none, none, none, none, none, none, none, none, none, none, none, none, none, none, none, none, none, none, none, none, none, none, none, none, none, none, none, none, none, none, none, none, none, none, none, none, none, none, none, none, none, none, none, none, none, none, none, none, none, none, none, none, none, none, none, none, none, none, none, none, none, none, none, none, none, none, none, none, none, none, none, none, none, none, none, none, none, none, none, none, none, none, none, none, none, none, none, none, none, none, none, none, none, none, none, none, none, none, none, none, none, none, none, none, none, none, none, none, none, none, none, none, none, none, none, none, none, none, none, none, none, none, none, none, none, none, none, none, none, none, none, none, none, none, none, none, none, none, none, none, none, none, none, none, none, none, none, none, none, none, none, none, none, none, none, none, none, none, none, none, none, none, none, none, none, none, none, none, none, none, none, none, none, none, none, none, none, none, none, none, none, none, none, none, none, none, none, none, none, none, none, none, none, none, none, none, none, none, none, none, none, none, none, none, none, none, none, none, none, none, none, none, none, none, none, none, none, none, none, none, none, none, none, none, none, none, none, none, none, none, none, none, none, none, none, none, none, none, none, none, none, none, none, none, none, none, none, none, none, none, none, none, none, none, none, none, none, none, none, none, none, none, none, none, none, none, none, none, none, none, none, none, none, none, none, none, none, none, none, none, none, none, none, none, none, none, none, none, none, none, none, none, none, none, none, none, none, none, none, none, none, none, none, none, none, none, none, none, none, none, none, none, none, none, none, none, none, none, none, none, none, none, none, none, none, none, none, none, none, none, none, none, none, none, none, none, none, none, none, none, none, none, none, none, none, none, none, none, none, none, none, none, none, none, none, none, none, none, none, none, none, none, none, none, none, none, none, none, none, none, none, none, none, none, none, none, none, none, none, none, none, none, none, none, none, none, none, none, none, none, none, none, none, none, none, none, none, none, none, none, none, none, none, none, none, none, none, none, none, none, none, none, none, none, none, none, none, none, none, none, none, none, none, none, none, none, none, none, none, none, none, none, none, none, none, none, none, none, none, none, none, none, none, none, none, none, none, none, none, none, none, none, none, none, none, none, none, none, none, none, none, none, none, none, none, none, none, none, none, none, none, none, none, none, none, none, none, none, none, none, none, none, none, none, none, none, none, none, none, none, none, none, none, none, none, none, none, none, none, none, none, none, none, none, none, none, none, none, none, none, none, none, none, none, none, none, none, none, none, none, none, none, none, none, none, none, none, none, none, none, none, none, none, none, none, none, none, none, none, none, none, none, none, none, none, none, none, none, none, none, none, none, none, none, none, none, none, none, none, none, none, none, none, none, none, none, none, none, none, none, none]⟩
noncomputable def C4 : Ctx := Ctx.memo C3 1000 [(4, [M10])]

noncomputable def isTrueRes : Res → Bool
  | .ok (.bool b) _ => b
  | _ => false
end Go.Proofs.YtmifmmpbmcfmpaaGreatDoor.S2T
