/- The types and functions of the program, as instances. -/
import Derived.Test.YtioaicleodjmpaaChecked
import Derived.Test.YtioaicleodjmpaaXlib
namespace Go.Proofs.Ytioaicleodjmpaa.X
open Go Go.Proofs
instance inf1 : Inf Try.prog 1 1 8 (.nilFunc) := ⟨by kernel_rfl⟩
instance ty2 : Ty Try.prog 2 (.int .i64) := ⟨by kernel_rfl⟩
instance one2 : One Try.prog 2 := ⟨_, ty2.und, (fun F h => by cases h), (fun n e h => by cases h)⟩
instance inf2 : Inf Try.prog 2 1 8 (.int .i64 0) := ⟨by kernel_rfl⟩
instance ty3 : Ty Try.prog 3 (.int .i64) := ⟨by kernel_rfl⟩
instance one3 : One Try.prog 3 := ⟨_, ty3.und, (fun F h => by cases h), (fun n e h => by cases h)⟩
instance inf3 : Inf Try.prog 3 1 8 (.int .i64 0) := ⟨by kernel_rfl⟩
instance ty4 : Ty Try.prog 4 .bool := ⟨by kernel_rfl⟩
instance one4 : One Try.prog 4 := ⟨_, ty4.und, (fun F h => by cases h), (fun n e h => by cases h)⟩
instance inf4 : Inf Try.prog 4 1 1 (.bool false) := ⟨by kernel_rfl⟩
instance ty5 : Ty Try.prog 5 (.int .u8) := ⟨by kernel_rfl⟩
instance one5 : One Try.prog 5 := ⟨_, ty5.und, (fun F h => by cases h), (fun n e h => by cases h)⟩
instance inf5 : Inf Try.prog 5 1 1 (.int .u8 0) := ⟨by kernel_rfl⟩
instance ty6 : Ty Try.prog 6 (.int .u8) := ⟨by kernel_rfl⟩
instance one6 : One Try.prog 6 := ⟨_, ty6.und, (fun F h => by cases h), (fun n e h => by cases h)⟩
instance inf6 : Inf Try.prog 6 1 1 (.int .u8 0) := ⟨by kernel_rfl⟩
instance stt7 : Stt Try.prog 7 [(2, 0, 1), (3, 1, 1), (4, 2, 1), (6, 3, 1)] := ⟨⟨_, Try.underlying7, by kernel_rfl⟩, by kernel_rfl⟩
instance inf7 : Inf Try.prog 7 4 24 (.agg [.int .i64 0, .int .i64 0, .bool false, .int .u8 0].toArray) := ⟨by kernel_rfl⟩
instance stt8 : Stt Try.prog 8 [(2, 0, 1), (3, 1, 1), (4, 2, 1), (6, 3, 1)] := ⟨⟨_, Try.underlying8, by kernel_rfl⟩, by kernel_rfl⟩
instance inf8 : Inf Try.prog 8 4 24 (.agg [.int .i64 0, .int .i64 0, .bool false, .int .u8 0].toArray) := ⟨by kernel_rfl⟩
instance ty9 : Ty Try.prog 9 .string := ⟨by kernel_rfl⟩
instance one9 : One Try.prog 9 := ⟨_, ty9.und, (fun F h => by cases h), (fun n e h => by cases h)⟩
instance inf9 : Inf Try.prog 9 1 16 (.string ⟨#[]⟩) := ⟨by kernel_rfl⟩
instance ty10 : Ty Try.prog 10 .string := ⟨by kernel_rfl⟩
instance one10 : One Try.prog 10 := ⟨_, ty10.und, (fun F h => by cases h), (fun n e h => by cases h)⟩
instance inf10 : Inf Try.prog 10 1 16 (.string ⟨#[]⟩) := ⟨by kernel_rfl⟩
instance ty11 : Ty Try.prog 11 .string := ⟨by kernel_rfl⟩
instance one11 : One Try.prog 11 := ⟨_, ty11.und, (fun F h => by cases h), (fun n e h => by cases h)⟩
instance inf11 : Inf Try.prog 11 1 16 (.string ⟨#[]⟩) := ⟨by kernel_rfl⟩
instance ty12 : Ty Try.prog 12 (.int .u64) := ⟨by kernel_rfl⟩
instance one12 : One Try.prog 12 := ⟨_, ty12.und, (fun F h => by cases h), (fun n e h => by cases h)⟩
instance inf12 : Inf Try.prog 12 1 8 (.int .u64 0) := ⟨by kernel_rfl⟩
instance stt13 : Stt Try.prog 13 [(9, 0, 1), (12, 1, 1)] := ⟨⟨_, Try.underlying13, by kernel_rfl⟩, by kernel_rfl⟩
instance inf13 : Inf Try.prog 13 2 24 (.agg [.string ⟨#[]⟩, .int .u64 0].toArray) := ⟨by kernel_rfl⟩
instance stt14 : Stt Try.prog 14 [(9, 0, 1), (12, 1, 1)] := ⟨⟨_, Try.underlying14, by kernel_rfl⟩, by kernel_rfl⟩
instance inf14 : Inf Try.prog 14 2 24 (.agg [.string ⟨#[]⟩, .int .u64 0].toArray) := ⟨by kernel_rfl⟩
instance ty15 : Ty Try.prog 15 (.pointer 75) := ⟨by kernel_rfl⟩
instance one15 : One Try.prog 15 := ⟨_, ty15.und, (fun F h => by cases h), (fun n e h => by cases h)⟩
instance inf15 : Inf Try.prog 15 1 8 (.pointer none) := ⟨by kernel_rfl⟩
instance ty16 : Ty Try.prog 16 (.pointer 78) := ⟨by kernel_rfl⟩
instance one16 : One Try.prog 16 := ⟨_, ty16.und, (fun F h => by cases h), (fun n e h => by cases h)⟩
instance inf16 : Inf Try.prog 16 1 8 (.pointer none) := ⟨by kernel_rfl⟩
instance ty17 : Ty Try.prog 17 (.pointer 86) := ⟨by kernel_rfl⟩
instance one17 : One Try.prog 17 := ⟨_, ty17.und, (fun F h => by cases h), (fun n e h => by cases h)⟩
instance inf17 : Inf Try.prog 17 1 8 (.pointer none) := ⟨by kernel_rfl⟩
instance stt18 : Stt Try.prog 18 [(17, 0, 1)] := ⟨⟨_, Try.underlying18, by kernel_rfl⟩, by kernel_rfl⟩
instance inf18 : Inf Try.prog 18 1 8 (.agg [.pointer none].toArray) := ⟨by kernel_rfl⟩
instance stt19 : Stt Try.prog 19 [(17, 0, 1)] := ⟨⟨_, Try.underlying19, by kernel_rfl⟩, by kernel_rfl⟩
instance inf19 : Inf Try.prog 19 1 8 (.agg [.pointer none].toArray) := ⟨by kernel_rfl⟩
instance inf20 : Inf Try.prog 20 1 16 (.nilIface) := ⟨by kernel_rfl⟩
instance ty21 : Ty Try.prog 21 (.int .i32) := ⟨by kernel_rfl⟩
instance one21 : One Try.prog 21 := ⟨_, ty21.und, (fun F h => by cases h), (fun n e h => by cases h)⟩
instance inf21 : Inf Try.prog 21 1 4 (.int .i32 0) := ⟨by kernel_rfl⟩
instance inf22 : Inf Try.prog 22 1 8 (.nilFunc) := ⟨by kernel_rfl⟩
instance ty23 : Ty Try.prog 23 (.pointer 64) := ⟨by kernel_rfl⟩
instance one23 : One Try.prog 23 := ⟨_, ty23.und, (fun F h => by cases h), (fun n e h => by cases h)⟩
instance inf23 : Inf Try.prog 23 1 8 (.pointer none) := ⟨by kernel_rfl⟩
instance inf24 : Inf Try.prog 24 1 8 (.nilFunc) := ⟨by kernel_rfl⟩
instance ty25 : Ty Try.prog 25 (.int .u32) := ⟨by kernel_rfl⟩
instance one25 : One Try.prog 25 := ⟨_, ty25.und, (fun F h => by cases h), (fun n e h => by cases h)⟩
instance inf25 : Inf Try.prog 25 1 4 (.int .u32 0) := ⟨by kernel_rfl⟩
instance ty26 : Ty Try.prog 26 (.int .i64) := ⟨by kernel_rfl⟩
instance one26 : One Try.prog 26 := ⟨_, ty26.und, (fun F h => by cases h), (fun n e h => by cases h)⟩
instance inf26 : Inf Try.prog 26 1 8 (.int .i64 0) := ⟨by kernel_rfl⟩
instance inf28 : Inf Try.prog 28 1 8 (.nilFunc) := ⟨by kernel_rfl⟩
instance ty29 : Ty Try.prog 29 (.slice 25) := ⟨by kernel_rfl⟩
instance one29 : One Try.prog 29 := ⟨_, ty29.und, (fun F h => by cases h), (fun n e h => by cases h)⟩
instance inf29 : Inf Try.prog 29 1 24 (.slice none 0 0) := ⟨by kernel_rfl⟩
instance inf30 : Inf Try.prog 30 1 8 (.nilFunc) := ⟨by kernel_rfl⟩
instance ty31 : Ty Try.prog 31 (.int .u64) := ⟨by kernel_rfl⟩
instance one31 : One Try.prog 31 := ⟨_, ty31.und, (fun F h => by cases h), (fun n e h => by cases h)⟩
instance inf31 : Inf Try.prog 31 1 8 (.int .u64 0) := ⟨by kernel_rfl⟩
instance inf32 : Inf Try.prog 32 1 8 (.nilFunc) := ⟨by kernel_rfl⟩
instance inf33 : Inf Try.prog 33 1 8 (.nilFunc) := ⟨by kernel_rfl⟩
instance inf34 : Inf Try.prog 34 1 8 (.nilFunc) := ⟨by kernel_rfl⟩
instance ty35 : Ty Try.prog 35 (.slice 3) := ⟨by kernel_rfl⟩
instance one35 : One Try.prog 35 := ⟨_, ty35.und, (fun F h => by cases h), (fun n e h => by cases h)⟩
instance inf35 : Inf Try.prog 35 1 24 (.slice none 0 0) := ⟨by kernel_rfl⟩
instance ty36 : Ty Try.prog 36 (.slice 31) := ⟨by kernel_rfl⟩
instance one36 : One Try.prog 36 := ⟨_, ty36.und, (fun F h => by cases h), (fun n e h => by cases h)⟩
instance inf36 : Inf Try.prog 36 1 24 (.slice none 0 0) := ⟨by kernel_rfl⟩
instance inf37 : Inf Try.prog 37 1 8 (.nilFunc) := ⟨by kernel_rfl⟩
instance inf38 : Inf Try.prog 38 1 8 (.nilFunc) := ⟨by kernel_rfl⟩
instance inf40 : Inf Try.prog 40 1 8 (.nilFunc) := ⟨by kernel_rfl⟩
instance inf41 : Inf Try.prog 41 1 8 (.nilFunc) := ⟨by kernel_rfl⟩
instance inf42 : Inf Try.prog 42 1 8 (.nilFunc) := ⟨by kernel_rfl⟩
instance inf43 : Inf Try.prog 43 1 8 (.nilFunc) := ⟨by kernel_rfl⟩
instance inf44 : Inf Try.prog 44 1 8 (.nilFunc) := ⟨by kernel_rfl⟩
instance ty45 : Ty Try.prog 45 (.slice 49) := ⟨by kernel_rfl⟩
instance one45 : One Try.prog 45 := ⟨_, ty45.und, (fun F h => by cases h), (fun n e h => by cases h)⟩
instance inf45 : Inf Try.prog 45 1 24 (.slice none 0 0) := ⟨by kernel_rfl⟩
instance ty46 : Ty Try.prog 46 (.pointer 58) := ⟨by kernel_rfl⟩
instance one46 : One Try.prog 46 := ⟨_, ty46.und, (fun F h => by cases h), (fun n e h => by cases h)⟩
instance inf46 : Inf Try.prog 46 1 8 (.pointer none) := ⟨by kernel_rfl⟩
instance inf47 : Inf Try.prog 47 1 8 (.nilFunc) := ⟨by kernel_rfl⟩
instance stt48 : Stt Try.prog 48 [(3, 0, 1), (3, 1, 1), (25, 2, 1), (36, 3, 1)] := ⟨⟨_, Try.underlying48, by kernel_rfl⟩, by kernel_rfl⟩
instance inf48 : Inf Try.prog 48 4 48 (.agg [.int .i64 0, .int .i64 0, .int .u32 0, .slice none 0 0].toArray) := ⟨by kernel_rfl⟩
instance stt49 : Stt Try.prog 49 [(3, 0, 1), (3, 1, 1), (25, 2, 1), (36, 3, 1)] := ⟨⟨_, Try.underlying49, by kernel_rfl⟩, by kernel_rfl⟩
instance inf49 : Inf Try.prog 49 4 48 (.agg [.int .i64 0, .int .i64 0, .int .u32 0, .slice none 0 0].toArray) := ⟨by kernel_rfl⟩
instance inf50 : Inf Try.prog 50 1 8 (.nilFunc) := ⟨by kernel_rfl⟩
instance inf51 : Inf Try.prog 51 1 8 (.nilFunc) := ⟨by kernel_rfl⟩
instance inf52 : Inf Try.prog 52 1 8 (.nilFunc) := ⟨by kernel_rfl⟩
instance inf53 : Inf Try.prog 53 1 8 (.nilFunc) := ⟨by kernel_rfl⟩
instance stt54 : Stt Try.prog 54 [(36, 0, 1), (4, 1, 1)] := ⟨⟨_, Try.underlying54, by kernel_rfl⟩, by kernel_rfl⟩
instance inf54 : Inf Try.prog 54 2 32 (.agg [.slice none 0 0, .bool false].toArray) := ⟨by kernel_rfl⟩
instance stt55 : Stt Try.prog 55 [(36, 0, 1), (4, 1, 1)] := ⟨⟨_, Try.underlying55, by kernel_rfl⟩, by kernel_rfl⟩
instance inf55 : Inf Try.prog 55 2 32 (.agg [.slice none 0 0, .bool false].toArray) := ⟨by kernel_rfl⟩
instance ty56 : Ty Try.prog 56 (.slice 55) := ⟨by kernel_rfl⟩
instance one56 : One Try.prog 56 := ⟨_, ty56.und, (fun F h => by cases h), (fun n e h => by cases h)⟩
instance inf56 : Inf Try.prog 56 1 24 (.slice none 0 0) := ⟨by kernel_rfl⟩
instance stt57 : Stt Try.prog 57 [(56, 0, 1), (29, 1, 1), (3, 2, 1)] := ⟨⟨_, Try.underlying57, by kernel_rfl⟩, by kernel_rfl⟩
instance inf57 : Inf Try.prog 57 3 56 (.agg [.slice none 0 0, .slice none 0 0, .int .i64 0].toArray) := ⟨by kernel_rfl⟩
instance stt58 : Stt Try.prog 58 [(56, 0, 1), (29, 1, 1), (3, 2, 1)] := ⟨⟨_, Try.underlying58, by kernel_rfl⟩, by kernel_rfl⟩
instance inf58 : Inf Try.prog 58 3 56 (.agg [.slice none 0 0, .slice none 0 0, .int .i64 0].toArray) := ⟨by kernel_rfl⟩
instance inf59 : Inf Try.prog 59 1 8 (.nilFunc) := ⟨by kernel_rfl⟩
instance inf60 : Inf Try.prog 60 1 8 (.nilFunc) := ⟨by kernel_rfl⟩
instance ty61 : Ty Try.prog 61 (.int .u64) := ⟨by kernel_rfl⟩
instance one61 : One Try.prog 61 := ⟨_, ty61.und, (fun F h => by cases h), (fun n e h => by cases h)⟩
instance inf61 : Inf Try.prog 61 1 8 (.int .u64 0) := ⟨by kernel_rfl⟩
instance ty62 : Ty Try.prog 62 (.slice 67) := ⟨by kernel_rfl⟩
instance one62 : One Try.prog 62 := ⟨_, ty62.und, (fun F h => by cases h), (fun n e h => by cases h)⟩
instance inf62 : Inf Try.prog 62 1 24 (.slice none 0 0) := ⟨by kernel_rfl⟩
instance stt63 : Stt Try.prog 63 [(3, 0, 1), (62, 1, 1), (29, 2, 1)] := ⟨⟨_, Try.underlying63, by kernel_rfl⟩, by kernel_rfl⟩
instance inf63 : Inf Try.prog 63 3 56 (.agg [.int .i64 0, .slice none 0 0, .slice none 0 0].toArray) := ⟨by kernel_rfl⟩
instance stt64 : Stt Try.prog 64 [(3, 0, 1), (62, 1, 1), (29, 2, 1)] := ⟨⟨_, Try.underlying64, by kernel_rfl⟩, by kernel_rfl⟩
instance inf64 : Inf Try.prog 64 3 56 (.agg [.int .i64 0, .slice none 0 0, .slice none 0 0].toArray) := ⟨by kernel_rfl⟩
instance inf65 : Inf Try.prog 65 1 8 (.nilFunc) := ⟨by kernel_rfl⟩
instance stt66 : Stt Try.prog 66 [(36, 0, 1), (4, 1, 1)] := ⟨⟨_, Try.underlying66, by kernel_rfl⟩, by kernel_rfl⟩
instance inf66 : Inf Try.prog 66 2 32 (.agg [.slice none 0 0, .bool false].toArray) := ⟨by kernel_rfl⟩
instance stt67 : Stt Try.prog 67 [(36, 0, 1), (4, 1, 1)] := ⟨⟨_, Try.underlying67, by kernel_rfl⟩, by kernel_rfl⟩
instance inf67 : Inf Try.prog 67 2 32 (.agg [.slice none 0 0, .bool false].toArray) := ⟨by kernel_rfl⟩
instance ty68 : Ty Try.prog 68 (.pointer 67) := ⟨by kernel_rfl⟩
instance one68 : One Try.prog 68 := ⟨_, ty68.und, (fun F h => by cases h), (fun n e h => by cases h)⟩
instance inf68 : Inf Try.prog 68 1 8 (.pointer none) := ⟨by kernel_rfl⟩
instance inf69 : Inf Try.prog 69 1 8 (.nilFunc) := ⟨by kernel_rfl⟩
instance ty70 : Ty Try.prog 70 (.pointer 31) := ⟨by kernel_rfl⟩
instance one70 : One Try.prog 70 := ⟨_, ty70.und, (fun F h => by cases h), (fun n e h => by cases h)⟩
instance inf70 : Inf Try.prog 70 1 8 (.pointer none) := ⟨by kernel_rfl⟩
instance inf72 : Inf Try.prog 72 1 8 (.nilFunc) := ⟨by kernel_rfl⟩
instance inf73 : Inf Try.prog 73 1 8 (.nilFunc) := ⟨by kernel_rfl⟩
instance stt74 : Stt Try.prog 74 [(17, 0, 1), (17, 1, 1), (17, 2, 1), (9, 3, 1)] := ⟨⟨_, Try.underlying74, by kernel_rfl⟩, by kernel_rfl⟩
instance inf74 : Inf Try.prog 74 4 40 (.agg [.pointer none, .pointer none, .pointer none, .string ⟨#[]⟩].toArray) := ⟨by kernel_rfl⟩
instance stt75 : Stt Try.prog 75 [(17, 0, 1), (17, 1, 1), (17, 2, 1), (9, 3, 1)] := ⟨⟨_, Try.underlying75, by kernel_rfl⟩, by kernel_rfl⟩
instance inf75 : Inf Try.prog 75 4 40 (.agg [.pointer none, .pointer none, .pointer none, .string ⟨#[]⟩].toArray) := ⟨by kernel_rfl⟩
instance stt77 : Stt Try.prog 77 [(76, 0, 0)] := ⟨⟨_, Try.underlying77, by kernel_rfl⟩, by kernel_rfl⟩
instance stt78 : Stt Try.prog 78 [(76, 0, 0)] := ⟨⟨_, Try.underlying78, by kernel_rfl⟩, by kernel_rfl⟩
instance ty79 : Ty Try.prog 79 (.int .u8) := ⟨by kernel_rfl⟩
instance one79 : One Try.prog 79 := ⟨_, ty79.und, (fun F h => by cases h), (fun n e h => by cases h)⟩
instance inf79 : Inf Try.prog 79 1 1 (.int .u8 0) := ⟨by kernel_rfl⟩
instance ty80 : Ty Try.prog 80 (.int .u8) := ⟨by kernel_rfl⟩
instance one80 : One Try.prog 80 := ⟨_, ty80.und, (fun F h => by cases h), (fun n e h => by cases h)⟩
instance inf80 : Inf Try.prog 80 1 1 (.int .u8 0) := ⟨by kernel_rfl⟩
instance inf81 : Inf Try.prog 81 1 8 (.nilFunc) := ⟨by kernel_rfl⟩
instance ty82 : Ty Try.prog 82 (.pointer 5) := ⟨by kernel_rfl⟩
instance one82 : One Try.prog 82 := ⟨_, ty82.und, (fun F h => by cases h), (fun n e h => by cases h)⟩
instance inf82 : Inf Try.prog 82 1 8 (.pointer none) := ⟨by kernel_rfl⟩
instance ty83 : Ty Try.prog 83 (.int .i32) := ⟨by kernel_rfl⟩
instance one83 : One Try.prog 83 := ⟨_, ty83.und, (fun F h => by cases h), (fun n e h => by cases h)⟩
instance inf83 : Inf Try.prog 83 1 4 (.int .i32 0) := ⟨by kernel_rfl⟩
instance ty84 : Ty Try.prog 84 (.int .i32) := ⟨by kernel_rfl⟩
instance one84 : One Try.prog 84 := ⟨_, ty84.und, (fun F h => by cases h), (fun n e h => by cases h)⟩
instance inf84 : Inf Try.prog 84 1 4 (.int .i32 0) := ⟨by kernel_rfl⟩
instance stt85 : Stt Try.prog 85 [(12, 0, 1), (12, 1, 1), (25, 2, 1), (79, 3, 1), (5, 4, 1), (5, 5, 1), (80, 6, 1), (81, 7, 1), (82, 8, 1), (83, 9, 1), (84, 10, 1)] := ⟨⟨_, Try.underlying85, by kernel_rfl⟩, by kernel_rfl⟩
instance inf85 : Inf Try.prog 85 11 48 (.agg [.int .u64 0, .int .u64 0, .int .u32 0, .int .u8 0, .int .u8 0, .int .u8 0, .int .u8 0, .nilFunc, .pointer none, .int .i32 0, .int .i32 0].toArray) := ⟨by kernel_rfl⟩
instance stt86 : Stt Try.prog 86 [(12, 0, 1), (12, 1, 1), (25, 2, 1), (79, 3, 1), (5, 4, 1), (5, 5, 1), (80, 6, 1), (81, 7, 1), (82, 8, 1), (83, 9, 1), (84, 10, 1)] := ⟨⟨_, Try.underlying86, by kernel_rfl⟩, by kernel_rfl⟩
instance inf86 : Inf Try.prog 86 11 48 (.agg [.int .u64 0, .int .u64 0, .int .u32 0, .int .u8 0, .int .u8 0, .int .u8 0, .int .u8 0, .nilFunc, .pointer none, .int .i32 0, .int .i32 0].toArray) := ⟨by kernel_rfl⟩
instance inf87 : Inf Try.prog 87 1 8 (.pointer none) := ⟨by kernel_rfl⟩
instance fnc2 : Fnc Try.prog 2 := ⟨_, Try.func2, by kernel_rfl, rfl⟩
instance fnc3 : Fnc Try.prog 3 := ⟨_, Try.func3, by kernel_rfl, rfl⟩
instance fnc4 : Fnc Try.prog 4 := ⟨_, Try.func4, by kernel_rfl, rfl⟩
instance fnc5 : Fnc Try.prog 5 := ⟨_, Try.func5, by kernel_rfl, rfl⟩
instance fnc6 : Fnc Try.prog 6 := ⟨_, Try.func6, by kernel_rfl, rfl⟩
instance fnc7 : Fnc Try.prog 7 := ⟨_, Try.func7, by kernel_rfl, rfl⟩
instance fnc8 : Fnc Try.prog 8 := ⟨_, Try.func8, by kernel_rfl, rfl⟩
instance fnc9 : Fnc Try.prog 9 := ⟨_, Try.func9, by kernel_rfl, rfl⟩
instance fnc10 : Fnc Try.prog 10 := ⟨_, Try.func10, by kernel_rfl, rfl⟩
instance fnc11 : Fnc Try.prog 11 := ⟨_, Try.func11, by kernel_rfl, rfl⟩
instance fnc12 : Fnc Try.prog 12 := ⟨_, Try.func12, by kernel_rfl, rfl⟩
instance fnc13 : Fnc Try.prog 13 := ⟨_, Try.func13, by kernel_rfl, rfl⟩
instance fnc14 : Fnc Try.prog 14 := ⟨_, Try.func14, by kernel_rfl, rfl⟩
instance fnc15 : Fnc Try.prog 15 := ⟨_, Try.func15, by kernel_rfl, rfl⟩
instance fnc16 : Fnc Try.prog 16 := ⟨_, Try.func16, by kernel_rfl, rfl⟩
instance fnc17 : Fnc Try.prog 17 := ⟨_, Try.func17, by kernel_rfl, rfl⟩
instance fnc18 : Fnc Try.prog 18 := ⟨_, Try.func18, by kernel_rfl, rfl⟩
instance fnc19 : Fnc Try.prog 19 := ⟨_, Try.func19, by kernel_rfl, rfl⟩
instance fnc20 : Fnc Try.prog 20 := ⟨_, Try.func20, by kernel_rfl, rfl⟩
instance fnc21 : Fnc Try.prog 21 := ⟨_, Try.func21, by kernel_rfl, rfl⟩
instance fnc22 : Fnc Try.prog 22 := ⟨_, Try.func22, by kernel_rfl, rfl⟩
instance fnc23 : Fnc Try.prog 23 := ⟨_, Try.func23, by kernel_rfl, rfl⟩
instance fnc24 : Fnc Try.prog 24 := ⟨_, Try.func24, by kernel_rfl, rfl⟩
instance fnc25 : Fnc Try.prog 25 := ⟨_, Try.func25, by kernel_rfl, rfl⟩
instance fnc26 : Fnc Try.prog 26 := ⟨_, Try.func26, by kernel_rfl, rfl⟩
instance fnc27 : Fnc Try.prog 27 := ⟨_, Try.func27, by kernel_rfl, rfl⟩
instance fnc28 : Fnc Try.prog 28 := ⟨_, Try.func28, by kernel_rfl, rfl⟩
instance fnc29 : Fnc Try.prog 29 := ⟨_, Try.func29, by kernel_rfl, rfl⟩
instance fnc30 : Fnc Try.prog 30 := ⟨_, Try.func30, by kernel_rfl, rfl⟩
theorem mixed : Try.prog.follows .mixedOrders = true := by kernel_rfl
end Go.Proofs.Ytioaicleodjmpaa.X
