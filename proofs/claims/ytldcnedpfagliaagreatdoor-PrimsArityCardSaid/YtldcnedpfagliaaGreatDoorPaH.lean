/- The closed calls as hooks; the example of the chapter. -/
import Derived.Test.YtldcnedpfagliaaGreatDoorPaR0
import Derived.Test.YtldcnedpfagliaaGreatDoorPaR1
import Derived.Test.YtldcnedpfagliaaGreatDoorPaR2
import Derived.Test.YtldcnedpfagliaaGreatDoorPaR3
import Derived.Test.YtldcnedpfagliaaGreatDoorPaR4
import Derived.Test.YtldcnedpfagliaaGreatDoorPaR5
import Derived.Test.YtldcnedpfagliaaGreatDoorEvSx
set_option linter.all false
set_option maxRecDepth 100000
namespace Go.Proofs.YtldcnedpfagliaaGreatDoor
open Go.Ev
noncomputable def rfR : List HR := [.mk 8 [] (.ptr (K.of 257) 0) 127 rfL0, .mk 15 [.int .i64 500] (.tuple [.ptr (K.of 256) 0, .int .i64 0]) 1 rfL1, .mk 82 [] (.map (K.of 256)) 1 rfL2, .mk 28 [.str 1 47] (.tuple [.agg [.int .i64 2, .int .i64 (-1), .func (.func 251) [] [.ptr (K.of 268) 0, .ptr (K.of 269) 0]], .bool true]) 42 rfL3, .mk 28 [.str 3 7171940] (.tuple [.agg [.int .i64 2, .int .i64 2, .func (.func 251) [] [.ptr (K.of 272) 0, .ptr (K.of 273) 0]], .bool true]) 42 rfL4, .mk 28 [.str 1 45] (.tuple [.agg [.int .i64 0, .int .i64 (-1), .func (.func 251) [] [.ptr (K.of 263) 0, .ptr (K.of 264) 0]], .bool true]) 42 rfL5, .mk 28 [.str 9 2129834018470726561383] (.tuple [.agg [.int .i64 2, .int .i64 3, .func (.func 171) [] []], .bool true]) 16 rfL6, .mk 28 [.str 12 35726687782111273258427444839] (.tuple [.agg [.int .i64 2, .int .i64 2, .func (.func 186) [] []], .bool true]) 16 rfL7, .mk 28 [.str 6 112628847174004] (.tuple [.agg [.int .i64 1, .int .i64 (-1), .func (.func 210) [] []], .bool true]) 15 rfL8, .mk 28 [.str 1 43] (.tuple [.agg [.int .i64 0, .int .i64 (-1), .func (.func 251) [] [.ptr (K.of 261) 0, .ptr (K.of 262) 0]], .bool true]) 42 rfL9, .mk 28 [.str 3 6386536] (.tuple [.agg [.int .i64 2, .int .i64 2, .func (.func 251) [] [.ptr (K.of 295) 0, .ptr (K.of 296) 0]], .bool true]) 42 rfL10, .mk 28 [.str 1 60] (.tuple [.agg [.int .i64 1, .int .i64 (-1), .func (.func 254) [] [.ptr (K.of 276) 0]], .bool true]) 42 rfL11, .mk 28 [.str 3 7238760] (.tuple [.agg [.int .i64 2, .int .i64 2, .func (.func 134) [] []], .bool true]) 17 rfL12, .mk 28 [.str 6 107135549927012] (.tuple [.agg [.int .i64 0, .int .i64 (-1), .func (.func 137) [] []], .bool true]) 17 rfL13, .mk 28 [.str 10 469311716112611284712037] (.tuple [.agg [.int .i64 1, .int .i64 1, .func (.func 178) [] []], .bool true]) 16 rfL14, .mk 28 [.str 16 153465846498675330771124613627041178994] (.tuple [.agg [.int .i64 1, .int .i64 1, .func (.func 179) [] []], .bool true]) 16 rfL15, .mk 28 [.str 4 1634887014] (.tuple [.agg [.int .i64 2, .int .i64 2, .func (.func 208) [] []], .bool true]) 13 rfL16, .mk 28 [.str 3 6513010] (.tuple [.agg [.int .i64 1, .int .i64 1, .func (.func 255) [] [.ptr (K.of 262) 0]], .bool true]) 17 rfL17, .mk 28 [.str 2 12587] (.tuple [.agg [.int .i64 1, .int .i64 1, .func (.func 99) [] [.ptr (K.of 274) 0]], .bool true]) 42 rfL18, .mk 28 [.str 13 9147277265708168193815465845608] (.tuple [.agg [.int .i64 2, .int .i64 3, .func (.func 187) [] []], .bool true]) 16 rfL19, .mk 28 [.str 4 1718838644] (.tuple [.agg [.int .i64 2, .int .i64 2, .func (.func 198) [] []], .bool true]) 13 rfL20, .mk 28 [.str 6 121424957498216] (.tuple [.agg [.int .i64 0, .int .i64 0, .nilFunc], .bool false]) 13 rfL21, .mk 28 [.str 7 32784620939210598] (.tuple [.agg [.int .i64 1, .int .i64 1, .func (.func 169) [] []], .bool true]) 24 rfL22, .mk 9 [] (.slice (K.of 259) 0 96 96 none) 4 rfL23, .mk 15 [.int .i64 100] (.tuple [.ptr (K.of 256) 0, .int .i64 0]) 1 rfL24, .mk 28 [.str 2 12589] (.tuple [.agg [.int .i64 1, .int .i64 1, .func (.func 99) [] [.ptr (K.of 275) 0]], .bool true]) 42 rfL25, .mk 28 [.str 2 15933] (.tuple [.agg [.int .i64 1, .int .i64 (-1), .func (.func 254) [] [.ptr (K.of 279) 0]], .bool true]) 42 rfL26, .mk 28 [.str 3 7168376] (.tuple [.agg [.int .i64 1, .int .i64 (-1), .func (.func 251) [] [.ptr (K.of 282) 0, .ptr (K.of 283) 0]], .bool true]) 42 rfL27, .mk 28 [.str 6 119225731608164] (.tuple [.agg [.int .i64 0, .int .i64 (-1), .func (.func 251) [] [.ptr (K.of 287) 0, .ptr (K.of 288) 0]], .bool true]) 42 rfL28, .mk 28 [.str 4 1668247155] (.tuple [.agg [.int .i64 2, .int .i64 2, .func (.func 126) [] []], .bool true]) 17 rfL29, .mk 28 [.str 6 126879581561970] (.tuple [.agg [.int .i64 2, .int .i64 2, .func (.func 256) [] [.ptr (K.of 265) 0]], .bool true]) 17 rfL30, .mk 28 [.str 6 119182899770472] (.tuple [.agg [.int .i64 1, .int .i64 1, .func (.func 136) [] []], .bool true]) 17 rfL31, .mk 28 [.str 4 1835363697] (.tuple [.agg [.int .i64 2, .int .i64 2, .func (.func 264) [] [.ptr (K.of 266) 0]], .bool true]) 17 rfL32, .mk 28 [.str 5 418548772707] (.tuple [.agg [.int .i64 2, .int .i64 2, .func (.func 264) [] [.ptr (K.of 269) 0]], .bool true]) 17 rfL33, .mk 28 [.str 4 1818325876] (.tuple [.agg [.int .i64 1, .int .i64 1, .func (.func 148) [] []], .bool true]) 17 rfL34, .mk 28 [.str 9 2073847238226935768436] (.tuple [.agg [.int .i64 2, .int .i64 2, .func (.func 151) [] []], .bool true]) 17 rfL35, .mk 28 [.str 3 6648172] (.tuple [.agg [.int .i64 2, .int .i64 2, .func (.func 157) [] [.ptr (K.of 263) 0]], .bool true]) 24 rfL36, .mk 28 [.str 3 7237492] (.tuple [.agg [.int .i64 1, .int .i64 1, .func (.func 154) [] [.ptr (K.of 266) 0]], .bool true]) 24 rfL37, .mk 28 [.str 5 465625642096] (.tuple [.agg [.int .i64 1, .int .i64 1, .func (.func 154) [] [.ptr (K.of 269) 0]], .bool true]) 24 rfL38, .mk 28 [.str 7 32497657065662320] (.tuple [.agg [.int .i64 1, .int .i64 1, .func (.func 154) [] [.ptr (K.of 269) 0]], .bool true]) 24 rfL39, .mk 28 [.str 9 1890029705619886272112] (.tuple [.agg [.int .i64 1, .int .i64 1, .func (.func 154) [] [.ptr (K.of 277) 0]], .bool true]) 24 rfL40, .mk 28 [.str 6 109330244526452] (.tuple [.agg [.int .i64 0, .int .i64 (-1), .func (.func 170) [] []], .bool true]) 16 rfL41, .mk 28 [.str 6 129125564117861] (.tuple [.agg [.int .i64 1, .int .i64 1, .func (.func 285) [] [.ptr (K.of 268) 0]], .bool true]) 16 rfL42, .mk 28 [.str 14 2341702980021291057909005759832434] (.tuple [.agg [.int .i64 1, .int .i64 1, .func (.func 181) [] []], .bool true]) 16 rfL43, .mk 28 [.str 11 132232964979059138306338407] (.tuple [.agg [.int .i64 2, .int .i64 2, .func (.func 184) [] []], .bool true]) 16 rfL44, .mk 28 [.str 11 139599893388220497016221029] (.tuple [.agg [.int .i64 1, .int .i64 1, .func (.func 190) [] []], .bool true]) 13 rfL45, .mk 28 [.str 6 113685342419309] (.tuple [.agg [.int .i64 0, .int .i64 0, .func (.func 193) [] []], .bool true]) 13 rfL46, .mk 28 [.str 11 123826968624716620364082788] (.tuple [.agg [.int .i64 1, .int .i64 1, .func (.func 201) [] []], .bool true]) 13 rfL47, .mk 28 [.str 6 130177832349554] (.tuple [.agg [.int .i64 0, .int .i64 (-1), .func (.func 205) [] []], .bool true]) 13 rfL48, .mk 28 [.str 15 583857795910584082413495227398057575] (.tuple [.agg [.int .i64 1, .int .i64 1, .func (.func 211) [] []], .bool true]) 15 rfL49, .mk 11 [] (.slice (K.of 448) 0 96 96 (some 1)) 193 rfL50, .mk 28 [.str 1 42] (.tuple [.agg [.int .i64 0, .int .i64 (-1), .func (.func 251) [] [.ptr (K.of 266) 0, .ptr (K.of 267) 0]], .bool true]) 42 rfL51, .mk 28 [.str 1 62] (.tuple [.agg [.int .i64 1, .int .i64 (-1), .func (.func 254) [] [.ptr (K.of 277) 0]], .bool true]) 42 rfL52, .mk 28 [.str 1 61] (.tuple [.agg [.int .i64 1, .int .i64 (-1), .func (.func 254) [] [.ptr (K.of 280) 0]], .bool true]) 42 rfL53, .mk 28 [.str 3 7170414] (.tuple [.agg [.int .i64 1, .int .i64 (-1), .func (.func 251) [] [.ptr (K.of 284) 0, .ptr (K.of 285) 0]], .bool true]) 42 rfL54, .mk 28 [.str 6 119225732132722] (.tuple [.agg [.int .i64 0, .int .i64 (-1), .func (.func 251) [] [.ptr (K.of 290) 0, .ptr (K.of 291) 0]], .bool true]) 42 rfL55, .mk 28 [.str 3 6513778] (.tuple [.agg [.int .i64 1, .int .i64 1, .func (.func 255) [] [.ptr (K.of 263) 0]], .bool true]) 17 rfL56, .mk 28 [.str 4 1818850164] (.tuple [.agg [.int .i64 0, .int .i64 (-1), .func (.func 132) [] []], .bool true]) 17 rfL57, .mk 28 [.str 7 32199706527560549] (.tuple [.agg [.int .i64 1, .int .i64 1, .func (.func 138) [] []], .bool true]) 17 rfL58, .mk 28 [.str 6 120282394289522] (.tuple [.agg [.int .i64 2, .int .i64 2, .func (.func 264) [] [.ptr (K.of 267) 0]], .bool true]) 17 rfL59, .mk 28 [.str 4 1684368497] (.tuple [.agg [.int .i64 2, .int .i64 2, .func (.func 268) [] [.ptr (K.of 270) 0]], .bool true]) 17 rfL60, .mk 28 [.str 13 7878076896938898650436905886565] (.tuple [.agg [.int .i64 1, .int .i64 1, .func (.func 149) [] []], .bool true]) 17 rfL61, .mk 28 [.str 9 2073847238226936362356] (.tuple [.agg [.int .i64 3, .int .i64 3, .func (.func 152) [] []], .bool true]) 17 rfL62, .mk 28 [.str 5 435695214956] (.tuple [.agg [.int .i64 2, .int .i64 2, .func (.func 157) [] [.ptr (K.of 273) 0]], .bool true]) 24 rfL63, .mk 28 [.str 4 1635020653] (.tuple [.agg [.int .i64 1, .int .i64 1, .func (.func 154) [] [.ptr (K.of 275) 0]], .bool true]) 24 rfL64, .mk 28 [.str 7 32503133031591024] (.tuple [.agg [.int .i64 1, .int .i64 1, .func (.func 154) [] [.ptr (K.of 269) 0]], .bool true]) 24 rfL65, .mk 28 [.str 7 33325525081485936] (.tuple [.agg [.int .i64 1, .int .i64 1, .func (.func 154) [] [.ptr (K.of 269) 0]], .bool true]) 24 rfL66, .mk 28 [.str 8 7594306396727374969] (.tuple [.agg [.int .i64 1, .int .i64 1, .func (.func 167) [] []], .bool true]) 24 rfL67, .mk 28 [.str 7 32497657065662269] (.tuple [.agg [.int .i64 2, .int .i64 2, .func (.func 284) [] [.ptr (K.of 266) 0]], .bool true]) 16 rfL68, .mk 28 [.str 8 7237134442205115237] (.tuple [.agg [.int .i64 1, .int .i64 1, .func (.func 285) [] [.ptr (K.of 269) 0]], .bool true]) 16 rfL69, .mk 28 [.str 14 2016228437741149294847839145913959] (.tuple [.agg [.int .i64 1, .int .i64 1, .func (.func 182) [] []], .bool true]) 16 rfL70, .mk 28 [.str 11 139576374293642703002364270] (.tuple [.agg [.int .i64 2, .int .i64 2, .func (.func 185) [] []], .bool true]) 16 rfL71, .mk 28 [.str 6 115923120124526] (.tuple [.agg [.int .i64 1, .int .i64 1, .func (.func 191) [] []], .bool true]) 13 rfL72, .mk 28 [.str 7 28818678475547760] (.tuple [.agg [.int .i64 1, .int .i64 1, .func (.func 196) [] []], .bool true]) 13 rfL73, .mk 28 [.str 3 6776180] (.tuple [.agg [.int .i64 2, .int .i64 2, .func (.func 203) [] []], .bool true]) 13 rfL74, .mk 28 [.str 11 132232964979062372165775218] (.tuple [.agg [.int .i64 2, .int .i64 2, .func (.func 207) [] []], .bool true]) 13 rfL75, .mk 28 [.str 20 579160321529547095576505714402459299887035543143] (.tuple [.agg [.int .i64 1, .int .i64 1, .func (.func 212) [] []], .bool true]) 15 rfL76, .mk 36 [] (.slice (K.of 256) 0 96 96 none) 1 rfL77, .mk 28 [.str 1 37] (.tuple [.agg [.int .i64 2, .int .i64 2, .func (.func 251) [] [.ptr (K.of 270) 0, .ptr (K.of 271) 0]], .bool true]) 42 rfL78, .mk 28 [.str 2 15421] (.tuple [.agg [.int .i64 1, .int .i64 (-1), .func (.func 254) [] [.ptr (K.of 278) 0]], .bool true]) 42 rfL79, .mk 28 [.str 2 12093] (.tuple [.agg [.int .i64 2, .int .i64 2, .func (.func 254) [] [.ptr (K.of 281) 0]], .bool true]) 42 rfL80, .mk 28 [.str 3 6382195] (.tuple [.agg [.int .i64 1, .int .i64 1, .func (.func 120) [] []], .bool true]) 42 rfL81, .mk 28 [.str 6 119225733115762] (.tuple [.agg [.int .i64 0, .int .i64 (-1), .func (.func 251) [] [.ptr (K.of 293) 0, .ptr (K.of 294) 0]], .bool true]) 42 rfL82, .mk 28 [.str 6 126879581561202] (.tuple [.agg [.int .i64 2, .int .i64 2, .func (.func 256) [] [.ptr (K.of 264) 0]], .bool true]) 17 rfL83, .mk 28 [.str 6 121446246605938] (.tuple [.agg [.int .i64 2, .int .i64 2, .func (.func 135) [] []], .bool true]) 17 rfL84, .mk 28 [.str 8 7958535050699633509] (.tuple [.agg [.int .i64 1, .int .i64 1, .func (.func 139) [] []], .bool true]) 17 rfL85, .mk 28 [.str 4 1634956145] (.tuple [.agg [.int .i64 2, .int .i64 2, .func (.func 264) [] [.ptr (K.of 268) 0]], .bool true]) 17 rfL86, .mk 28 [.str 6 110386773062757] (.tuple [.agg [.int .i64 2, .int .i64 2, .func (.func 268) [] [.ptr (K.of 271) 0]], .bool true]) 17 rfL87, .mk 28 [.str 9 2017714919724294959988] (.tuple [.agg [.int .i64 2, .int .i64 2, .func (.func 150) [] []], .bool true]) 17 rfL88, .mk 28 [.str 2 25969] (.tuple [.agg [.int .i64 2, .int .i64 2, .func (.func 157) [] [.ptr (K.of 263) 0]], .bool true]) 24 rfL89, .mk 28 [.str 4 1853189228] (.tuple [.agg [.int .i64 1, .int .i64 1, .func (.func 154) [] [.ptr (K.of 266) 0]], .bool true]) 24 rfL90, .mk 28 [.str 5 427071271792] (.tuple [.agg [.int .i64 1, .int .i64 1, .func (.func 154) [] [.ptr (K.of 269) 0]], .bool true]) 24 rfL91, .mk 28 [.str 8 7597137600295826032] (.tuple [.agg [.int .i64 1, .int .i64 1, .func (.func 154) [] [.ptr (K.of 269) 0]], .bool true]) 24 rfL92, .mk 28 [.str 10 469439764969609476010608] (.tuple [.agg [.int .i64 1, .int .i64 1, .func (.func 154) [] [.ptr (K.of 269) 0]], .bool true]) 24 rfL93, .mk 28 [.str 6 115892955345509] (.tuple [.agg [.int .i64 0, .int .i64 (-1), .func (.func 168) [] []], .bool true]) 24 rfL94, .mk 28 [.str 7 32497657065662268] (.tuple [.agg [.int .i64 2, .int .i64 2, .func (.func 284) [] [.ptr (K.of 267) 0]], .bool true]) 16 rfL95, .mk 28 [.str 16 146824796847192063471655286726650850919] (.tuple [.agg [.int .i64 1, .int .i64 1, .func (.func 180) [] []], .bool true]) 16 rfL96, .mk 28 [.str 14 2341702980021291057909005910897524] (.tuple [.agg [.int .i64 1, .int .i64 1, .func (.func 183) [] []], .bool true]) 16 rfL97, .mk 28 [.str 15 599475962885450510537381108849847664] (.tuple [.agg [.int .i64 2, .int .i64 2, .func (.func 284) [] [.ptr (K.of 270) 0]], .bool true]) 16 rfL98, .mk 28 [.str 11 132232964979059159696830316] (.tuple [.agg [.int .i64 1, .int .i64 1, .func (.func 192) [] []], .bool true]) 13 rfL99, .mk 28 [.str 15 599576976627493665750704741168017262] (.tuple [.agg [.int .i64 1, .int .i64 1, .func (.func 197) [] []], .bool true]) 13 rfL100, .mk 28 [.str 3 7370100] (.tuple [.agg [.int .i64 3, .int .i64 3, .func (.func 204) [] []], .bool true]) 13 rfL101, .mk 28 [.str 4 1634952564] (.tuple [.agg [.int .i64 3, .int .i64 3, .func (.func 209) [] []], .bool true]) 13 rfL102, .mk 28 [.str 1 96] (.tuple [.agg [.int .i64 1, .int .i64 1, .func (.func 213) [] []], .bool true]) 15 rfL103]
theorem rfR_ok : HookOk (hooksR rfR) := hooksR_ok rfR fun f vs v n L h => by
  simp only [rfR, List.mem_cons, List.not_mem_nil, or_false, HR.mk.injEq] at h
  rcases h with ⟨rfl, rfl, rfl, rfl, rfl⟩ | ⟨rfl, rfl, rfl, rfl, rfl⟩ | ⟨rfl, rfl, rfl, rfl, rfl⟩ | ⟨rfl, rfl, rfl, rfl, rfl⟩ | ⟨rfl, rfl, rfl, rfl, rfl⟩ | ⟨rfl, rfl, rfl, rfl, rfl⟩ | ⟨rfl, rfl, rfl, rfl, rfl⟩ | ⟨rfl, rfl, rfl, rfl, rfl⟩ | ⟨rfl, rfl, rfl, rfl, rfl⟩ | ⟨rfl, rfl, rfl, rfl, rfl⟩ | ⟨rfl, rfl, rfl, rfl, rfl⟩ | ⟨rfl, rfl, rfl, rfl, rfl⟩ | ⟨rfl, rfl, rfl, rfl, rfl⟩ | ⟨rfl, rfl, rfl, rfl, rfl⟩ | ⟨rfl, rfl, rfl, rfl, rfl⟩ | ⟨rfl, rfl, rfl, rfl, rfl⟩ | ⟨rfl, rfl, rfl, rfl, rfl⟩ | ⟨rfl, rfl, rfl, rfl, rfl⟩ | ⟨rfl, rfl, rfl, rfl, rfl⟩ | ⟨rfl, rfl, rfl, rfl, rfl⟩ | ⟨rfl, rfl, rfl, rfl, rfl⟩ | ⟨rfl, rfl, rfl, rfl, rfl⟩ | ⟨rfl, rfl, rfl, rfl, rfl⟩ | ⟨rfl, rfl, rfl, rfl, rfl⟩ | ⟨rfl, rfl, rfl, rfl, rfl⟩ | ⟨rfl, rfl, rfl, rfl, rfl⟩ | ⟨rfl, rfl, rfl, rfl, rfl⟩ | ⟨rfl, rfl, rfl, rfl, rfl⟩ | ⟨rfl, rfl, rfl, rfl, rfl⟩ | ⟨rfl, rfl, rfl, rfl, rfl⟩ | ⟨rfl, rfl, rfl, rfl, rfl⟩ | ⟨rfl, rfl, rfl, rfl, rfl⟩ | ⟨rfl, rfl, rfl, rfl, rfl⟩ | ⟨rfl, rfl, rfl, rfl, rfl⟩ | ⟨rfl, rfl, rfl, rfl, rfl⟩ | ⟨rfl, rfl, rfl, rfl, rfl⟩ | ⟨rfl, rfl, rfl, rfl, rfl⟩ | ⟨rfl, rfl, rfl, rfl, rfl⟩ | ⟨rfl, rfl, rfl, rfl, rfl⟩ | ⟨rfl, rfl, rfl, rfl, rfl⟩ | ⟨rfl, rfl, rfl, rfl, rfl⟩ | ⟨rfl, rfl, rfl, rfl, rfl⟩ | ⟨rfl, rfl, rfl, rfl, rfl⟩ | ⟨rfl, rfl, rfl, rfl, rfl⟩ | ⟨rfl, rfl, rfl, rfl, rfl⟩ | ⟨rfl, rfl, rfl, rfl, rfl⟩ | ⟨rfl, rfl, rfl, rfl, rfl⟩ | ⟨rfl, rfl, rfl, rfl, rfl⟩ | ⟨rfl, rfl, rfl, rfl, rfl⟩ | ⟨rfl, rfl, rfl, rfl, rfl⟩ | ⟨rfl, rfl, rfl, rfl, rfl⟩ | ⟨rfl, rfl, rfl, rfl, rfl⟩ | ⟨rfl, rfl, rfl, rfl, rfl⟩ | ⟨rfl, rfl, rfl, rfl, rfl⟩ | ⟨rfl, rfl, rfl, rfl, rfl⟩ | ⟨rfl, rfl, rfl, rfl, rfl⟩ | ⟨rfl, rfl, rfl, rfl, rfl⟩ | ⟨rfl, rfl, rfl, rfl, rfl⟩ | ⟨rfl, rfl, rfl, rfl, rfl⟩ | ⟨rfl, rfl, rfl, rfl, rfl⟩ | ⟨rfl, rfl, rfl, rfl, rfl⟩ | ⟨rfl, rfl, rfl, rfl, rfl⟩ | ⟨rfl, rfl, rfl, rfl, rfl⟩ | ⟨rfl, rfl, rfl, rfl, rfl⟩ | ⟨rfl, rfl, rfl, rfl, rfl⟩ | ⟨rfl, rfl, rfl, rfl, rfl⟩ | ⟨rfl, rfl, rfl, rfl, rfl⟩ | ⟨rfl, rfl, rfl, rfl, rfl⟩ | ⟨rfl, rfl, rfl, rfl, rfl⟩ | ⟨rfl, rfl, rfl, rfl, rfl⟩ | ⟨rfl, rfl, rfl, rfl, rfl⟩ | ⟨rfl, rfl, rfl, rfl, rfl⟩ | ⟨rfl, rfl, rfl, rfl, rfl⟩ | ⟨rfl, rfl, rfl, rfl, rfl⟩ | ⟨rfl, rfl, rfl, rfl, rfl⟩ | ⟨rfl, rfl, rfl, rfl, rfl⟩ | ⟨rfl, rfl, rfl, rfl, rfl⟩ | ⟨rfl, rfl, rfl, rfl, rfl⟩ | ⟨rfl, rfl, rfl, rfl, rfl⟩ | ⟨rfl, rfl, rfl, rfl, rfl⟩ | ⟨rfl, rfl, rfl, rfl, rfl⟩ | ⟨rfl, rfl, rfl, rfl, rfl⟩ | ⟨rfl, rfl, rfl, rfl, rfl⟩ | ⟨rfl, rfl, rfl, rfl, rfl⟩ | ⟨rfl, rfl, rfl, rfl, rfl⟩ | ⟨rfl, rfl, rfl, rfl, rfl⟩ | ⟨rfl, rfl, rfl, rfl, rfl⟩ | ⟨rfl, rfl, rfl, rfl, rfl⟩ | ⟨rfl, rfl, rfl, rfl, rfl⟩ | ⟨rfl, rfl, rfl, rfl, rfl⟩ | ⟨rfl, rfl, rfl, rfl, rfl⟩ | ⟨rfl, rfl, rfl, rfl, rfl⟩ | ⟨rfl, rfl, rfl, rfl, rfl⟩ | ⟨rfl, rfl, rfl, rfl, rfl⟩ | ⟨rfl, rfl, rfl, rfl, rfl⟩ | ⟨rfl, rfl, rfl, rfl, rfl⟩ | ⟨rfl, rfl, rfl, rfl, rfl⟩ | ⟨rfl, rfl, rfl, rfl, rfl⟩ | ⟨rfl, rfl, rfl, rfl, rfl⟩ | ⟨rfl, rfl, rfl, rfl, rfl⟩ | ⟨rfl, rfl, rfl, rfl, rfl⟩ | ⟨rfl, rfl, rfl, rfl, rfl⟩ | ⟨rfl, rfl, rfl, rfl, rfl⟩ | ⟨rfl, rfl, rfl, rfl, rfl⟩
  · exact ⟨rf0, by kernel_rfl, by kernel_rfl⟩
  · exact ⟨rf1, by kernel_rfl, by kernel_rfl⟩
  · exact ⟨rf2, by kernel_rfl, by kernel_rfl⟩
  · exact ⟨rf3, by kernel_rfl, by kernel_rfl⟩
  · exact ⟨rf4, by kernel_rfl, by kernel_rfl⟩
  · exact ⟨rf5, by kernel_rfl, by kernel_rfl⟩
  · exact ⟨rf6, by kernel_rfl, by kernel_rfl⟩
  · exact ⟨rf7, by kernel_rfl, by kernel_rfl⟩
  · exact ⟨rf8, by kernel_rfl, by kernel_rfl⟩
  · exact ⟨rf9, by kernel_rfl, by kernel_rfl⟩
  · exact ⟨rf10, by kernel_rfl, by kernel_rfl⟩
  · exact ⟨rf11, by kernel_rfl, by kernel_rfl⟩
  · exact ⟨rf12, by kernel_rfl, by kernel_rfl⟩
  · exact ⟨rf13, by kernel_rfl, by kernel_rfl⟩
  · exact ⟨rf14, by kernel_rfl, by kernel_rfl⟩
  · exact ⟨rf15, by kernel_rfl, by kernel_rfl⟩
  · exact ⟨rf16, by kernel_rfl, by kernel_rfl⟩
  · exact ⟨rf17, by kernel_rfl, by kernel_rfl⟩
  · exact ⟨rf18, by kernel_rfl, by kernel_rfl⟩
  · exact ⟨rf19, by kernel_rfl, by kernel_rfl⟩
  · exact ⟨rf20, by kernel_rfl, by kernel_rfl⟩
  · exact ⟨rf21, by kernel_rfl, by kernel_rfl⟩
  · exact ⟨rf22, by kernel_rfl, by kernel_rfl⟩
  · exact ⟨rf23, by kernel_rfl, by kernel_rfl⟩
  · exact ⟨rf24, by kernel_rfl, by kernel_rfl⟩
  · exact ⟨rf25, by kernel_rfl, by kernel_rfl⟩
  · exact ⟨rf26, by kernel_rfl, by kernel_rfl⟩
  · exact ⟨rf27, by kernel_rfl, by kernel_rfl⟩
  · exact ⟨rf28, by kernel_rfl, by kernel_rfl⟩
  · exact ⟨rf29, by kernel_rfl, by kernel_rfl⟩
  · exact ⟨rf30, by kernel_rfl, by kernel_rfl⟩
  · exact ⟨rf31, by kernel_rfl, by kernel_rfl⟩
  · exact ⟨rf32, by kernel_rfl, by kernel_rfl⟩
  · exact ⟨rf33, by kernel_rfl, by kernel_rfl⟩
  · exact ⟨rf34, by kernel_rfl, by kernel_rfl⟩
  · exact ⟨rf35, by kernel_rfl, by kernel_rfl⟩
  · exact ⟨rf36, by kernel_rfl, by kernel_rfl⟩
  · exact ⟨rf37, by kernel_rfl, by kernel_rfl⟩
  · exact ⟨rf38, by kernel_rfl, by kernel_rfl⟩
  · exact ⟨rf39, by kernel_rfl, by kernel_rfl⟩
  · exact ⟨rf40, by kernel_rfl, by kernel_rfl⟩
  · exact ⟨rf41, by kernel_rfl, by kernel_rfl⟩
  · exact ⟨rf42, by kernel_rfl, by kernel_rfl⟩
  · exact ⟨rf43, by kernel_rfl, by kernel_rfl⟩
  · exact ⟨rf44, by kernel_rfl, by kernel_rfl⟩
  · exact ⟨rf45, by kernel_rfl, by kernel_rfl⟩
  · exact ⟨rf46, by kernel_rfl, by kernel_rfl⟩
  · exact ⟨rf47, by kernel_rfl, by kernel_rfl⟩
  · exact ⟨rf48, by kernel_rfl, by kernel_rfl⟩
  · exact ⟨rf49, by kernel_rfl, by kernel_rfl⟩
  · exact ⟨rf50, by kernel_rfl, by kernel_rfl⟩
  · exact ⟨rf51, by kernel_rfl, by kernel_rfl⟩
  · exact ⟨rf52, by kernel_rfl, by kernel_rfl⟩
  · exact ⟨rf53, by kernel_rfl, by kernel_rfl⟩
  · exact ⟨rf54, by kernel_rfl, by kernel_rfl⟩
  · exact ⟨rf55, by kernel_rfl, by kernel_rfl⟩
  · exact ⟨rf56, by kernel_rfl, by kernel_rfl⟩
  · exact ⟨rf57, by kernel_rfl, by kernel_rfl⟩
  · exact ⟨rf58, by kernel_rfl, by kernel_rfl⟩
  · exact ⟨rf59, by kernel_rfl, by kernel_rfl⟩
  · exact ⟨rf60, by kernel_rfl, by kernel_rfl⟩
  · exact ⟨rf61, by kernel_rfl, by kernel_rfl⟩
  · exact ⟨rf62, by kernel_rfl, by kernel_rfl⟩
  · exact ⟨rf63, by kernel_rfl, by kernel_rfl⟩
  · exact ⟨rf64, by kernel_rfl, by kernel_rfl⟩
  · exact ⟨rf65, by kernel_rfl, by kernel_rfl⟩
  · exact ⟨rf66, by kernel_rfl, by kernel_rfl⟩
  · exact ⟨rf67, by kernel_rfl, by kernel_rfl⟩
  · exact ⟨rf68, by kernel_rfl, by kernel_rfl⟩
  · exact ⟨rf69, by kernel_rfl, by kernel_rfl⟩
  · exact ⟨rf70, by kernel_rfl, by kernel_rfl⟩
  · exact ⟨rf71, by kernel_rfl, by kernel_rfl⟩
  · exact ⟨rf72, by kernel_rfl, by kernel_rfl⟩
  · exact ⟨rf73, by kernel_rfl, by kernel_rfl⟩
  · exact ⟨rf74, by kernel_rfl, by kernel_rfl⟩
  · exact ⟨rf75, by kernel_rfl, by kernel_rfl⟩
  · exact ⟨rf76, by kernel_rfl, by kernel_rfl⟩
  · exact ⟨rf77, by kernel_rfl, by kernel_rfl⟩
  · exact ⟨rf78, by kernel_rfl, by kernel_rfl⟩
  · exact ⟨rf79, by kernel_rfl, by kernel_rfl⟩
  · exact ⟨rf80, by kernel_rfl, by kernel_rfl⟩
  · exact ⟨rf81, by kernel_rfl, by kernel_rfl⟩
  · exact ⟨rf82, by kernel_rfl, by kernel_rfl⟩
  · exact ⟨rf83, by kernel_rfl, by kernel_rfl⟩
  · exact ⟨rf84, by kernel_rfl, by kernel_rfl⟩
  · exact ⟨rf85, by kernel_rfl, by kernel_rfl⟩
  · exact ⟨rf86, by kernel_rfl, by kernel_rfl⟩
  · exact ⟨rf87, by kernel_rfl, by kernel_rfl⟩
  · exact ⟨rf88, by kernel_rfl, by kernel_rfl⟩
  · exact ⟨rf89, by kernel_rfl, by kernel_rfl⟩
  · exact ⟨rf90, by kernel_rfl, by kernel_rfl⟩
  · exact ⟨rf91, by kernel_rfl, by kernel_rfl⟩
  · exact ⟨rf92, by kernel_rfl, by kernel_rfl⟩
  · exact ⟨rf93, by kernel_rfl, by kernel_rfl⟩
  · exact ⟨rf94, by kernel_rfl, by kernel_rfl⟩
  · exact ⟨rf95, by kernel_rfl, by kernel_rfl⟩
  · exact ⟨rf96, by kernel_rfl, by kernel_rfl⟩
  · exact ⟨rf97, by kernel_rfl, by kernel_rfl⟩
  · exact ⟨rf98, by kernel_rfl, by kernel_rfl⟩
  · exact ⟨rf99, by kernel_rfl, by kernel_rfl⟩
  · exact ⟨rf100, by kernel_rfl, by kernel_rfl⟩
  · exact ⟨rf101, by kernel_rfl, by kernel_rfl⟩
  · exact ⟨rf102, by kernel_rfl, by kernel_rfl⟩
  · exact ⟨rf103, by kernel_rfl, by kernel_rfl⟩
theorem ex0_run : retV (enter (run (hooksR rfR) 1000000) 6 [.str 9 740977300705617392425] wS) (.str 1 54) = true := by kernel_rfl
theorem ex0 : HookFact 6 [.str 9 740977300705617392425] (.str 1 54) := fact_of_run rfR_ok rfl rfl ex0_run
theorem ex1_run : retV (enter (run (hooksR rfR) 1000000) 6 [.str 7 11368269246116137] wS) (.str 29 1090977105337601561389681388317904627453745345473007100220983721603369) = true := by kernel_rfl
theorem ex1 : HookFact 6 [.str 7 11368269246116137] (.str 29 1090977105337601561389681388317904627453745345473007100220983721603369) := fact_of_run rfR_ok rfl rfl ex1_run
noncomputable def exH : List HE := [.mk 6 [.str 9 740977300705617392425] (.str 1 54), .mk 6 [.str 7 11368269246116137] (.str 29 1090977105337601561389681388317904627453745345473007100220983721603369)]
theorem exH_ok : HookOk (hooks exH) := hooks_ok exH fun f vs v h => by
  simp only [exH, List.mem_cons, List.not_mem_nil, or_false, HE.mk.injEq] at h
  rcases h with ⟨rfl, rfl, rfl⟩ | ⟨rfl, rfl, rfl⟩
  · exact ex0
  · exact ex1
theorem lives_run : retV (enter (run (hooks exH) 1000000) 5 [] wS) (.bool true) = true := by kernel_rfl
theorem lives_fact : HookFact 5 [] (.bool true) := fact_of_run exH_ok rfl rfl lives_run
end Go.Proofs.YtldcnedpfagliaaGreatDoor
