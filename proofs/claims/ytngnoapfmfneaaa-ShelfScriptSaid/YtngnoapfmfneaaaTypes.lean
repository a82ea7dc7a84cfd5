/- The types and functions of the program, as instances. -/
import Derived.Test.YtngnoapfmfneaaaChecked
import Derived.Test.YtngnoapfmfneaaaXlib
namespace Go.Proofs.Ytngnoapfmfneaaa.X
open Go Go.Proofs
instance inf1 : Inf Try.prog 1 1 8 (.nilFunc) := ⟨by kernel_rfl⟩
instance ty2 : Ty Try.prog 2 (.int .i64) := ⟨by kernel_rfl⟩
instance one2 : One Try.prog 2 := ⟨_, ty2.und, (fun F h => by cases h), (fun n e h => by cases h)⟩
instance inf2 : Inf Try.prog 2 1 8 (.int .i64 0) := ⟨by kernel_rfl⟩
instance ty3 : Ty Try.prog 3 (.int .i64) := ⟨by kernel_rfl⟩
instance one3 : One Try.prog 3 := ⟨_, ty3.und, (fun F h => by cases h), (fun n e h => by cases h)⟩
instance inf3 : Inf Try.prog 3 1 8 (.int .i64 0) := ⟨by kernel_rfl⟩
instance ty4 : Ty Try.prog 4 .bool := ⟨by kernel_rfl⟩
instance one4 : One Try.prog 4 := ⟨_, ty4.und, (fun F h => by cases h), (fun n e h => by cases h)⟩
instance inf4 : Inf Try.prog 4 1 1 (.bool false) := ⟨by kernel_rfl⟩
instance ty5 : Ty Try.prog 5 (.int .u8) := ⟨by kernel_rfl⟩
instance one5 : One Try.prog 5 := ⟨_, ty5.und, (fun F h => by cases h), (fun n e h => by cases h)⟩
instance inf5 : Inf Try.prog 5 1 1 (.int .u8 0) := ⟨by kernel_rfl⟩
instance ty6 : Ty Try.prog 6 (.int .u8) := ⟨by kernel_rfl⟩
instance one6 : One Try.prog 6 := ⟨_, ty6.und, (fun F h => by cases h), (fun n e h => by cases h)⟩
instance inf6 : Inf Try.prog 6 1 1 (.int .u8 0) := ⟨by kernel_rfl⟩
instance stt7 : Stt Try.prog 7 [(2, 0, 1), (3, 1, 1), (4, 2, 1), (6, 3, 1)] := ⟨⟨_, Try.underlying7, by kernel_rfl⟩, by kernel_rfl⟩
instance inf7 : Inf Try.prog 7 4 24 (.agg [.int .i64 0, .int .i64 0, .bool false, .int .u8 0].toArray) := ⟨by kernel_rfl⟩
instance stt8 : Stt Try.prog 8 [(2, 0, 1), (3, 1, 1), (4, 2, 1), (6, 3, 1)] := ⟨⟨_, Try.underlying8, by kernel_rfl⟩, by kernel_rfl⟩
instance inf8 : Inf Try.prog 8 4 24 (.agg [.int .i64 0, .int .i64 0, .bool false, .int .u8 0].toArray) := ⟨by kernel_rfl⟩
instance ty9 : Ty Try.prog 9 .string := ⟨by kernel_rfl⟩
instance one9 : One Try.prog 9 := ⟨_, ty9.und, (fun F h => by cases h), (fun n e h => by cases h)⟩
instance inf9 : Inf Try.prog 9 1 16 (.string ⟨#[]⟩) := ⟨by kernel_rfl⟩
instance ty10 : Ty Try.prog 10 .string := ⟨by kernel_rfl⟩
instance one10 : One Try.prog 10 := ⟨_, ty10.und, (fun F h => by cases h), (fun n e h => by cases h)⟩
instance inf10 : Inf Try.prog 10 1 16 (.string ⟨#[]⟩) := ⟨by kernel_rfl⟩
instance ty11 : Ty Try.prog 11 .string := ⟨by kernel_rfl⟩
instance one11 : One Try.prog 11 := ⟨_, ty11.und, (fun F h => by cases h), (fun n e h => by cases h)⟩
instance inf11 : Inf Try.prog 11 1 16 (.string ⟨#[]⟩) := ⟨by kernel_rfl⟩
instance ty12 : Ty Try.prog 12 (.int .u64) := ⟨by kernel_rfl⟩
instance one12 : One Try.prog 12 := ⟨_, ty12.und, (fun F h => by cases h), (fun n e h => by cases h)⟩
instance inf12 : Inf Try.prog 12 1 8 (.int .u64 0) := ⟨by kernel_rfl⟩
instance stt13 : Stt Try.prog 13 [(9, 0, 1), (12, 1, 1)] := ⟨⟨_, Try.underlying13, by kernel_rfl⟩, by kernel_rfl⟩
instance inf13 : Inf Try.prog 13 2 24 (.agg [.string ⟨#[]⟩, .int .u64 0].toArray) := ⟨by kernel_rfl⟩
instance stt14 : Stt Try.prog 14 [(9, 0, 1), (12, 1, 1)] := ⟨⟨_, Try.underlying14, by kernel_rfl⟩, by kernel_rfl⟩
instance inf14 : Inf Try.prog 14 2 24 (.agg [.string ⟨#[]⟩, .int .u64 0].toArray) := ⟨by kernel_rfl⟩
instance ty15 : Ty Try.prog 15 (.pointer 83) := ⟨by kernel_rfl⟩
instance one15 : One Try.prog 15 := ⟨_, ty15.und, (fun F h => by cases h), (fun n e h => by cases h)⟩
instance inf15 : Inf Try.prog 15 1 8 (.pointer none) := ⟨by kernel_rfl⟩
instance ty16 : Ty Try.prog 16 (.pointer 86) := ⟨by kernel_rfl⟩
instance one16 : One Try.prog 16 := ⟨_, ty16.und, (fun F h => by cases h), (fun n e h => by cases h)⟩
instance inf16 : Inf Try.prog 16 1 8 (.pointer none) := ⟨by kernel_rfl⟩
instance ty17 : Ty Try.prog 17 (.pointer 95) := ⟨by kernel_rfl⟩
instance one17 : One Try.prog 17 := ⟨_, ty17.und, (fun F h => by cases h), (fun n e h => by cases h)⟩
instance inf17 : Inf Try.prog 17 1 8 (.pointer none) := ⟨by kernel_rfl⟩
instance stt18 : Stt Try.prog 18 [(17, 0, 1)] := ⟨⟨_, Try.underlying18, by kernel_rfl⟩, by kernel_rfl⟩
instance inf18 : Inf Try.prog 18 1 8 (.agg [.pointer none].toArray) := ⟨by kernel_rfl⟩
instance stt19 : Stt Try.prog 19 [(17, 0, 1)] := ⟨⟨_, Try.underlying19, by kernel_rfl⟩, by kernel_rfl⟩
instance inf19 : Inf Try.prog 19 1 8 (.agg [.pointer none].toArray) := ⟨by kernel_rfl⟩
instance inf20 : Inf Try.prog 20 1 16 (.nilIface) := ⟨by kernel_rfl⟩
instance ty21 : Ty Try.prog 21 (.int .i32) := ⟨by kernel_rfl⟩
instance one21 : One Try.prog 21 := ⟨_, ty21.und, (fun F h => by cases h), (fun n e h => by cases h)⟩
instance inf21 : Inf Try.prog 21 1 4 (.int .i32 0) := ⟨by kernel_rfl⟩
instance ty22 : Ty Try.prog 22 (.slice 37) := ⟨by kernel_rfl⟩
instance one22 : One Try.prog 22 := ⟨_, ty22.und, (fun F h => by cases h), (fun n e h => by cases h)⟩
instance inf22 : Inf Try.prog 22 1 24 (.slice none 0 0) := ⟨by kernel_rfl⟩
instance inf23 : Inf Try.prog 23 1 8 (.nilFunc) := ⟨by kernel_rfl⟩
instance inf24 : Inf Try.prog 24 1 8 (.nilFunc) := ⟨by kernel_rfl⟩
instance ty25 : Ty Try.prog 25 (.pointer 30) := ⟨by kernel_rfl⟩
instance one25 : One Try.prog 25 := ⟨_, ty25.und, (fun F h => by cases h), (fun n e h => by cases h)⟩
instance inf25 : Inf Try.prog 25 1 8 (.pointer none) := ⟨by kernel_rfl⟩
instance inf26 : Inf Try.prog 26 1 8 (.nilFunc) := ⟨by kernel_rfl⟩
instance ty27 : Ty Try.prog 27 (.pointer 66) := ⟨by kernel_rfl⟩
instance one27 : One Try.prog 27 := ⟨_, ty27.und, (fun F h => by cases h), (fun n e h => by cases h)⟩
instance inf27 : Inf Try.prog 27 1 8 (.pointer none) := ⟨by kernel_rfl⟩
instance inf28 : Inf Try.prog 28 1 8 (.nilFunc) := ⟨by kernel_rfl⟩
instance stt29 : Stt Try.prog 29 [(22, 0, 1)] := ⟨⟨_, Try.underlying29, by kernel_rfl⟩, by kernel_rfl⟩
instance inf29 : Inf Try.prog 29 1 24 (.agg [.slice none 0 0].toArray) := ⟨by kernel_rfl⟩
instance stt30 : Stt Try.prog 30 [(22, 0, 1)] := ⟨⟨_, Try.underlying30, by kernel_rfl⟩, by kernel_rfl⟩
instance inf30 : Inf Try.prog 30 1 24 (.agg [.slice none 0 0].toArray) := ⟨by kernel_rfl⟩
instance ty31 : Ty Try.prog 31 (.slice 22) := ⟨by kernel_rfl⟩
instance one31 : One Try.prog 31 := ⟨_, ty31.und, (fun F h => by cases h), (fun n e h => by cases h)⟩
instance inf31 : Inf Try.prog 31 1 24 (.slice none 0 0) := ⟨by kernel_rfl⟩
instance inf33 : Inf Try.prog 33 1 8 (.nilFunc) := ⟨by kernel_rfl⟩
instance ty34 : Ty Try.prog 34 (.slice 5) := ⟨by kernel_rfl⟩
instance one34 : One Try.prog 34 := ⟨_, ty34.und, (fun F h => by cases h), (fun n e h => by cases h)⟩
instance inf34 : Inf Try.prog 34 1 24 (.slice none 0 0) := ⟨by kernel_rfl⟩
instance ty35 : Ty Try.prog 35 (.int .u64) := ⟨by kernel_rfl⟩
instance one35 : One Try.prog 35 := ⟨_, ty35.und, (fun F h => by cases h), (fun n e h => by cases h)⟩
instance inf35 : Inf Try.prog 35 1 8 (.int .u64 0) := ⟨by kernel_rfl⟩
instance stt36 : Stt Try.prog 36 [(34, 0, 1), (35, 1, 1)] := ⟨⟨_, Try.underlying36, by kernel_rfl⟩, by kernel_rfl⟩
instance inf36 : Inf Try.prog 36 2 32 (.agg [.slice none 0 0, .int .u64 0].toArray) := ⟨by kernel_rfl⟩
instance stt37 : Stt Try.prog 37 [(34, 0, 1), (35, 1, 1)] := ⟨⟨_, Try.underlying37, by kernel_rfl⟩, by kernel_rfl⟩
instance inf37 : Inf Try.prog 37 2 32 (.agg [.slice none 0 0, .int .u64 0].toArray) := ⟨by kernel_rfl⟩
instance inf38 : Inf Try.prog 38 1 8 (.nilFunc) := ⟨by kernel_rfl⟩
instance ty39 : Ty Try.prog 39 (.int .i64) := ⟨by kernel_rfl⟩
instance one39 : One Try.prog 39 := ⟨_, ty39.und, (fun F h => by cases h), (fun n e h => by cases h)⟩
instance inf39 : Inf Try.prog 39 1 8 (.int .i64 0) := ⟨by kernel_rfl⟩
instance inf41 : Inf Try.prog 41 1 8 (.nilFunc) := ⟨by kernel_rfl⟩
instance inf42 : Inf Try.prog 42 1 8 (.nilFunc) := ⟨by kernel_rfl⟩
instance inf43 : Inf Try.prog 43 1 8 (.nilFunc) := ⟨by kernel_rfl⟩
instance inf45 : Inf Try.prog 45 1 8 (.nilFunc) := ⟨by kernel_rfl⟩
instance inf47 : Inf Try.prog 47 1 8 (.nilFunc) := ⟨by kernel_rfl⟩
instance inf49 : Inf Try.prog 49 1 8 (.nilFunc) := ⟨by kernel_rfl⟩
instance inf50 : Inf Try.prog 50 1 8 (.nilFunc) := ⟨by kernel_rfl⟩
instance ty51 : Ty Try.prog 51 (.slice 55) := ⟨by kernel_rfl⟩
instance one51 : One Try.prog 51 := ⟨_, ty51.und, (fun F h => by cases h), (fun n e h => by cases h)⟩
instance inf51 : Inf Try.prog 51 1 24 (.slice none 0 0) := ⟨by kernel_rfl⟩
instance inf52 : Inf Try.prog 52 1 8 (.nilFunc) := ⟨by kernel_rfl⟩
instance inf53 : Inf Try.prog 53 1 8 (.nilFunc) := ⟨by kernel_rfl⟩
instance stt54 : Stt Try.prog 54 [(34, 0, 1), (35, 1, 1), (4, 2, 1)] := ⟨⟨_, Try.underlying54, by kernel_rfl⟩, by kernel_rfl⟩
instance inf54 : Inf Try.prog 54 3 40 (.agg [.slice none 0 0, .int .u64 0, .bool false].toArray) := ⟨by kernel_rfl⟩
instance stt55 : Stt Try.prog 55 [(34, 0, 1), (35, 1, 1), (4, 2, 1)] := ⟨⟨_, Try.underlying55, by kernel_rfl⟩, by kernel_rfl⟩
instance inf55 : Inf Try.prog 55 3 40 (.agg [.slice none 0 0, .int .u64 0, .bool false].toArray) := ⟨by kernel_rfl⟩
instance inf56 : Inf Try.prog 56 1 8 (.nilFunc) := ⟨by kernel_rfl⟩
instance inf57 : Inf Try.prog 57 1 8 (.nilFunc) := ⟨by kernel_rfl⟩
instance inf58 : Inf Try.prog 58 1 8 (.nilFunc) := ⟨by kernel_rfl⟩
instance inf59 : Inf Try.prog 59 1 8 (.nilFunc) := ⟨by kernel_rfl⟩
instance inf60 : Inf Try.prog 60 1 8 (.nilFunc) := ⟨by kernel_rfl⟩
instance inf61 : Inf Try.prog 61 1 8 (.nilFunc) := ⟨by kernel_rfl⟩
instance inf62 : Inf Try.prog 62 1 8 (.nilFunc) := ⟨by kernel_rfl⟩
instance ty63 : Ty Try.prog 63 (.pointer 73) := ⟨by kernel_rfl⟩
instance one63 : One Try.prog 63 := ⟨_, ty63.und, (fun F h => by cases h), (fun n e h => by cases h)⟩
instance inf63 : Inf Try.prog 63 1 8 (.pointer none) := ⟨by kernel_rfl⟩
instance inf64 : Inf Try.prog 64 1 8 (.nilFunc) := ⟨by kernel_rfl⟩
instance stt65 : Stt Try.prog 65 [(63, 0, 1)] := ⟨⟨_, Try.underlying65, by kernel_rfl⟩, by kernel_rfl⟩
instance inf65 : Inf Try.prog 65 1 8 (.agg [.pointer none].toArray) := ⟨by kernel_rfl⟩
instance stt66 : Stt Try.prog 66 [(63, 0, 1)] := ⟨⟨_, Try.underlying66, by kernel_rfl⟩, by kernel_rfl⟩
instance inf66 : Inf Try.prog 66 1 8 (.agg [.pointer none].toArray) := ⟨by kernel_rfl⟩
instance inf67 : Inf Try.prog 67 1 8 (.nilFunc) := ⟨by kernel_rfl⟩
instance inf68 : Inf Try.prog 68 1 8 (.nilFunc) := ⟨by kernel_rfl⟩
instance inf69 : Inf Try.prog 69 1 8 (.nilFunc) := ⟨by kernel_rfl⟩
instance ty70 : Ty Try.prog 70 (.int .u64) := ⟨by kernel_rfl⟩
instance one70 : One Try.prog 70 := ⟨_, ty70.und, (fun F h => by cases h), (fun n e h => by cases h)⟩
instance inf70 : Inf Try.prog 70 1 8 (.int .u64 0) := ⟨by kernel_rfl⟩
instance inf71 : Inf Try.prog 71 1 8 (.nilFunc) := ⟨by kernel_rfl⟩
instance stt72 : Stt Try.prog 72 [(22, 0, 1)] := ⟨⟨_, Try.underlying72, by kernel_rfl⟩, by kernel_rfl⟩
instance inf72 : Inf Try.prog 72 1 24 (.agg [.slice none 0 0].toArray) := ⟨by kernel_rfl⟩
instance stt73 : Stt Try.prog 73 [(22, 0, 1)] := ⟨⟨_, Try.underlying73, by kernel_rfl⟩, by kernel_rfl⟩
instance inf73 : Inf Try.prog 73 1 24 (.agg [.slice none 0 0].toArray) := ⟨by kernel_rfl⟩
instance inf74 : Inf Try.prog 74 1 8 (.nilFunc) := ⟨by kernel_rfl⟩
instance inf75 : Inf Try.prog 75 1 8 (.nilFunc) := ⟨by kernel_rfl⟩
instance inf76 : Inf Try.prog 76 1 8 (.nilFunc) := ⟨by kernel_rfl⟩
instance inf77 : Inf Try.prog 77 1 8 (.nilFunc) := ⟨by kernel_rfl⟩
instance inf78 : Inf Try.prog 78 1 8 (.nilFunc) := ⟨by kernel_rfl⟩
instance inf79 : Inf Try.prog 79 1 8 (.nilFunc) := ⟨by kernel_rfl⟩
instance inf80 : Inf Try.prog 80 1 8 (.nilFunc) := ⟨by kernel_rfl⟩
instance inf81 : Inf Try.prog 81 1 8 (.nilFunc) := ⟨by kernel_rfl⟩
instance stt82 : Stt Try.prog 82 [(17, 0, 1), (17, 1, 1), (17, 2, 1), (9, 3, 1)] := ⟨⟨_, Try.underlying82, by kernel_rfl⟩, by kernel_rfl⟩
instance inf82 : Inf Try.prog 82 4 40 (.agg [.pointer none, .pointer none, .pointer none, .string ⟨#[]⟩].toArray) := ⟨by kernel_rfl⟩
instance stt83 : Stt Try.prog 83 [(17, 0, 1), (17, 1, 1), (17, 2, 1), (9, 3, 1)] := ⟨⟨_, Try.underlying83, by kernel_rfl⟩, by kernel_rfl⟩
instance inf83 : Inf Try.prog 83 4 40 (.agg [.pointer none, .pointer none, .pointer none, .string ⟨#[]⟩].toArray) := ⟨by kernel_rfl⟩
instance stt85 : Stt Try.prog 85 [(84, 0, 0)] := ⟨⟨_, Try.underlying85, by kernel_rfl⟩, by kernel_rfl⟩
instance stt86 : Stt Try.prog 86 [(84, 0, 0)] := ⟨⟨_, Try.underlying86, by kernel_rfl⟩, by kernel_rfl⟩
instance ty87 : Ty Try.prog 87 (.int .u32) := ⟨by kernel_rfl⟩
instance one87 : One Try.prog 87 := ⟨_, ty87.und, (fun F h => by cases h), (fun n e h => by cases h)⟩
instance inf87 : Inf Try.prog 87 1 4 (.int .u32 0) := ⟨by kernel_rfl⟩
instance ty88 : Ty Try.prog 88 (.int .u8) := ⟨by kernel_rfl⟩
instance one88 : One Try.prog 88 := ⟨_, ty88.und, (fun F h => by cases h), (fun n e h => by cases h)⟩
instance inf88 : Inf Try.prog 88 1 1 (.int .u8 0) := ⟨by kernel_rfl⟩
instance ty89 : Ty Try.prog 89 (.int .u8) := ⟨by kernel_rfl⟩
instance one89 : One Try.prog 89 := ⟨_, ty89.und, (fun F h => by cases h), (fun n e h => by cases h)⟩
instance inf89 : Inf Try.prog 89 1 1 (.int .u8 0) := ⟨by kernel_rfl⟩
instance inf90 : Inf Try.prog 90 1 8 (.nilFunc) := ⟨by kernel_rfl⟩
instance ty91 : Ty Try.prog 91 (.pointer 5) := ⟨by kernel_rfl⟩
instance one91 : One Try.prog 91 := ⟨_, ty91.und, (fun F h => by cases h), (fun n e h => by cases h)⟩
instance inf91 : Inf Try.prog 91 1 8 (.pointer none) := ⟨by kernel_rfl⟩
instance ty92 : Ty Try.prog 92 (.int .i32) := ⟨by kernel_rfl⟩
instance one92 : One Try.prog 92 := ⟨_, ty92.und, (fun F h => by cases h), (fun n e h => by cases h)⟩
instance inf92 : Inf Try.prog 92 1 4 (.int .i32 0) := ⟨by kernel_rfl⟩
instance ty93 : Ty Try.prog 93 (.int .i32) := ⟨by kernel_rfl⟩
instance one93 : One Try.prog 93 := ⟨_, ty93.und, (fun F h => by cases h), (fun n e h => by cases h)⟩
instance inf93 : Inf Try.prog 93 1 4 (.int .i32 0) := ⟨by kernel_rfl⟩
instance stt94 : Stt Try.prog 94 [(12, 0, 1), (12, 1, 1), (87, 2, 1), (88, 3, 1), (5, 4, 1), (5, 5, 1), (89, 6, 1), (90, 7, 1), (91, 8, 1), (92, 9, 1), (93, 10, 1)] := ⟨⟨_, Try.underlying94, by kernel_rfl⟩, by kernel_rfl⟩
instance inf94 : Inf Try.prog 94 11 48 (.agg [.int .u64 0, .int .u64 0, .int .u32 0, .int .u8 0, .int .u8 0, .int .u8 0, .int .u8 0, .nilFunc, .pointer none, .int .i32 0, .int .i32 0].toArray) := ⟨by kernel_rfl⟩
instance stt95 : Stt Try.prog 95 [(12, 0, 1), (12, 1, 1), (87, 2, 1), (88, 3, 1), (5, 4, 1), (5, 5, 1), (89, 6, 1), (90, 7, 1), (91, 8, 1), (92, 9, 1), (93, 10, 1)] := ⟨⟨_, Try.underlying95, by kernel_rfl⟩, by kernel_rfl⟩
instance inf95 : Inf Try.prog 95 11 48 (.agg [.int .u64 0, .int .u64 0, .int .u32 0, .int .u8 0, .int .u8 0, .int .u8 0, .int .u8 0, .nilFunc, .pointer none, .int .i32 0, .int .i32 0].toArray) := ⟨by kernel_rfl⟩
instance inf96 : Inf Try.prog 96 1 8 (.pointer none) := ⟨by kernel_rfl⟩
instance fnc2 : Fnc Try.prog 2 := ⟨_, Try.func2, by kernel_rfl, rfl⟩
instance fnc3 : Fnc Try.prog 3 := ⟨_, Try.func3, by kernel_rfl, rfl⟩
instance fnc4 : Fnc Try.prog 4 := ⟨_, Try.func4, by kernel_rfl, rfl⟩
instance fnc5 : Fnc Try.prog 5 := ⟨_, Try.func5, by kernel_rfl, rfl⟩
instance fnc6 : Fnc Try.prog 6 := ⟨_, Try.func6, by kernel_rfl, rfl⟩
instance fnc7 : Fnc Try.prog 7 := ⟨_, Try.func7, by kernel_rfl, rfl⟩
instance fnc8 : Fnc Try.prog 8 := ⟨_, Try.func8, by kernel_rfl, rfl⟩
instance fnc9 : Fnc Try.prog 9 := ⟨_, Try.func9, by kernel_rfl, rfl⟩
instance fnc10 : Fnc Try.prog 10 := ⟨_, Try.func10, by kernel_rfl, rfl⟩
instance fnc11 : Fnc Try.prog 11 := ⟨_, Try.func11, by kernel_rfl, rfl⟩
instance fnc12 : Fnc Try.prog 12 := ⟨_, Try.func12, by kernel_rfl, rfl⟩
instance fnc13 : Fnc Try.prog 13 := ⟨_, Try.func13, by kernel_rfl, rfl⟩
instance fnc14 : Fnc Try.prog 14 := ⟨_, Try.func14, by kernel_rfl, rfl⟩
instance fnc15 : Fnc Try.prog 15 := ⟨_, Try.func15, by kernel_rfl, rfl⟩
instance fnc16 : Fnc Try.prog 16 := ⟨_, Try.func16, by kernel_rfl, rfl⟩
instance fnc17 : Fnc Try.prog 17 := ⟨_, Try.func17, by kernel_rfl, rfl⟩
instance fnc18 : Fnc Try.prog 18 := ⟨_, Try.func18, by kernel_rfl, rfl⟩
instance fnc19 : Fnc Try.prog 19 := ⟨_, Try.func19, by kernel_rfl, rfl⟩
instance fnc20 : Fnc Try.prog 20 := ⟨_, Try.func20, by kernel_rfl, rfl⟩
instance fnc21 : Fnc Try.prog 21 := ⟨_, Try.func21, by kernel_rfl, rfl⟩
instance fnc22 : Fnc Try.prog 22 := ⟨_, Try.func22, by kernel_rfl, rfl⟩
instance fnc23 : Fnc Try.prog 23 := ⟨_, Try.func23, by kernel_rfl, rfl⟩
instance fnc24 : Fnc Try.prog 24 := ⟨_, Try.func24, by kernel_rfl, rfl⟩
instance fnc25 : Fnc Try.prog 25 := ⟨_, Try.func25, by kernel_rfl, rfl⟩
instance fnc26 : Fnc Try.prog 26 := ⟨_, Try.func26, by kernel_rfl, rfl⟩
instance fnc27 : Fnc Try.prog 27 := ⟨_, Try.func27, by kernel_rfl, rfl⟩
instance fnc28 : Fnc Try.prog 28 := ⟨_, Try.func28, by kernel_rfl, rfl⟩
instance fnc29 : Fnc Try.prog 29 := ⟨_, Try.func29, by kernel_rfl, rfl⟩
instance fnc30 : Fnc Try.prog 30 := ⟨_, Try.func30, by kernel_rfl, rfl⟩
instance fnc31 : Fnc Try.prog 31 := ⟨_, Try.func31, by kernel_rfl, rfl⟩
instance fnc32 : Fnc Try.prog 32 := ⟨_, Try.func32, by kernel_rfl, rfl⟩
instance fnc33 : Fnc Try.prog 33 := ⟨_, Try.func33, by kernel_rfl, rfl⟩
instance fnc34 : Fnc Try.prog 34 := ⟨_, Try.func34, by kernel_rfl, rfl⟩
instance fnc35 : Fnc Try.prog 35 := ⟨_, Try.func35, by kernel_rfl, rfl⟩
instance fnc36 : Fnc Try.prog 36 := ⟨_, Try.func36, by kernel_rfl, rfl⟩
instance fnc37 : Fnc Try.prog 37 := ⟨_, Try.func37, by kernel_rfl, rfl⟩
instance fnc38 : Fnc Try.prog 38 := ⟨_, Try.func38, by kernel_rfl, rfl⟩
instance fnc39 : Fnc Try.prog 39 := ⟨_, Try.func39, by kernel_rfl, rfl⟩
instance fnc40 : Fnc Try.prog 40 := ⟨_, Try.func40, by kernel_rfl, rfl⟩
instance fnc41 : Fnc Try.prog 41 := ⟨_, Try.func41, by kernel_rfl, rfl⟩
instance fnc42 : Fnc Try.prog 42 := ⟨_, Try.func42, by kernel_rfl, rfl⟩
instance fnc43 : Fnc Try.prog 43 := ⟨_, Try.func43, by kernel_rfl, rfl⟩
instance fnc44 : Fnc Try.prog 44 := ⟨_, Try.func44, by kernel_rfl, rfl⟩
instance fnc45 : Fnc Try.prog 45 := ⟨_, Try.func45, by kernel_rfl, rfl⟩
instance fnc46 : Fnc Try.prog 46 := ⟨_, Try.func46, by kernel_rfl, rfl⟩
instance fnc47 : Fnc Try.prog 47 := ⟨_, Try.func47, by kernel_rfl, rfl⟩
instance fnc48 : Fnc Try.prog 48 := ⟨_, Try.func48, by kernel_rfl, rfl⟩
instance fnc49 : Fnc Try.prog 49 := ⟨_, Try.func49, by kernel_rfl, rfl⟩
instance fnc50 : Fnc Try.prog 50 := ⟨_, Try.func50, by kernel_rfl, rfl⟩
instance fnc51 : Fnc Try.prog 51 := ⟨_, Try.func51, by kernel_rfl, rfl⟩
instance fnc53 : Fnc Try.prog 53 := ⟨_, Try.func53, by kernel_rfl, rfl⟩
instance fnc55 : Fnc Try.prog 55 := ⟨_, Try.func55, by kernel_rfl, rfl⟩
instance fnc56 : Fnc Try.prog 56 := ⟨_, Try.func56, by kernel_rfl, rfl⟩
instance cmp54 : IsCmp Try.prog 54 := ⟨_, Try.func54, by kernel_rfl, rfl, by kernel_rfl, by kernel_rfl⟩
theorem mixed : Try.prog.follows .mixedOrders = true := by kernel_rfl
end Go.Proofs.Ytngnoapfmfneaaa.X
