/- The types and functions of the program, as instances. -/
import Derived.Test.YtaloblomncjgkaaChecked
import Derived.Test.YtaloblomncjgkaaXlib
namespace Go.Proofs.Ytaloblomncjgkaa.X
open Go Go.Proofs
instance inf1 : Inf Try.prog 1 1 8 (.nilFunc) := ⟨by kernel_rfl⟩
instance ty2 : Ty Try.prog 2 (.int .i64) := ⟨by kernel_rfl⟩
instance one2 : One Try.prog 2 := ⟨_, ty2.und, (fun F h => by cases h), (fun n e h => by cases h)⟩
instance inf2 : Inf Try.prog 2 1 8 (.int .i64 0) := ⟨by kernel_rfl⟩
instance ty3 : Ty Try.prog 3 (.int .i64) := ⟨by kernel_rfl⟩
instance one3 : One Try.prog 3 := ⟨_, ty3.und, (fun F h => by cases h), (fun n e h => by cases h)⟩
instance inf3 : Inf Try.prog 3 1 8 (.int .i64 0) := ⟨by kernel_rfl⟩
instance ty4 : Ty Try.prog 4 .bool := ⟨by kernel_rfl⟩
instance one4 : One Try.prog 4 := ⟨_, ty4.und, (fun F h => by cases h), (fun n e h => by cases h)⟩
instance inf4 : Inf Try.prog 4 1 1 (.bool false) := ⟨by kernel_rfl⟩
instance ty5 : Ty Try.prog 5 (.int .u8) := ⟨by kernel_rfl⟩
instance one5 : One Try.prog 5 := ⟨_, ty5.und, (fun F h => by cases h), (fun n e h => by cases h)⟩
instance inf5 : Inf Try.prog 5 1 1 (.int .u8 0) := ⟨by kernel_rfl⟩
instance ty6 : Ty Try.prog 6 (.int .u8) := ⟨by kernel_rfl⟩
instance one6 : One Try.prog 6 := ⟨_, ty6.und, (fun F h => by cases h), (fun n e h => by cases h)⟩
instance inf6 : Inf Try.prog 6 1 1 (.int .u8 0) := ⟨by kernel_rfl⟩
instance stt7 : Stt Try.prog 7 [(2, 0, 1), (3, 1, 1), (4, 2, 1), (6, 3, 1)] := ⟨⟨_, Try.underlying7, by kernel_rfl⟩, by kernel_rfl⟩
instance inf7 : Inf Try.prog 7 4 24 (.agg [.int .i64 0, .int .i64 0, .bool false, .int .u8 0].toArray) := ⟨by kernel_rfl⟩
instance stt8 : Stt Try.prog 8 [(2, 0, 1), (3, 1, 1), (4, 2, 1), (6, 3, 1)] := ⟨⟨_, Try.underlying8, by kernel_rfl⟩, by kernel_rfl⟩
instance inf8 : Inf Try.prog 8 4 24 (.agg [.int .i64 0, .int .i64 0, .bool false, .int .u8 0].toArray) := ⟨by kernel_rfl⟩
instance ty9 : Ty Try.prog 9 .string := ⟨by kernel_rfl⟩
instance one9 : One Try.prog 9 := ⟨_, ty9.und, (fun F h => by cases h), (fun n e h => by cases h)⟩
instance inf9 : Inf Try.prog 9 1 16 (.string ⟨#[]⟩) := ⟨by kernel_rfl⟩
instance ty10 : Ty Try.prog 10 .string := ⟨by kernel_rfl⟩
instance one10 : One Try.prog 10 := ⟨_, ty10.und, (fun F h => by cases h), (fun n e h => by cases h)⟩
instance inf10 : Inf Try.prog 10 1 16 (.string ⟨#[]⟩) := ⟨by kernel_rfl⟩
instance ty11 : Ty Try.prog 11 .string := ⟨by kernel_rfl⟩
instance one11 : One Try.prog 11 := ⟨_, ty11.und, (fun F h => by cases h), (fun n e h => by cases h)⟩
instance inf11 : Inf Try.prog 11 1 16 (.string ⟨#[]⟩) := ⟨by kernel_rfl⟩
instance ty12 : Ty Try.prog 12 (.int .u64) := ⟨by kernel_rfl⟩
instance one12 : One Try.prog 12 := ⟨_, ty12.und, (fun F h => by cases h), (fun n e h => by cases h)⟩
instance inf12 : Inf Try.prog 12 1 8 (.int .u64 0) := ⟨by kernel_rfl⟩
instance stt13 : Stt Try.prog 13 [(9, 0, 1), (12, 1, 1)] := ⟨⟨_, Try.underlying13, by kernel_rfl⟩, by kernel_rfl⟩
instance inf13 : Inf Try.prog 13 2 24 (.agg [.string ⟨#[]⟩, .int .u64 0].toArray) := ⟨by kernel_rfl⟩
instance stt14 : Stt Try.prog 14 [(9, 0, 1), (12, 1, 1)] := ⟨⟨_, Try.underlying14, by kernel_rfl⟩, by kernel_rfl⟩
instance inf14 : Inf Try.prog 14 2 24 (.agg [.string ⟨#[]⟩, .int .u64 0].toArray) := ⟨by kernel_rfl⟩
instance ty15 : Ty Try.prog 15 (.pointer 124) := ⟨by kernel_rfl⟩
instance one15 : One Try.prog 15 := ⟨_, ty15.und, (fun F h => by cases h), (fun n e h => by cases h)⟩
instance inf15 : Inf Try.prog 15 1 8 (.pointer none) := ⟨by kernel_rfl⟩
instance ty16 : Ty Try.prog 16 (.pointer 127) := ⟨by kernel_rfl⟩
instance one16 : One Try.prog 16 := ⟨_, ty16.und, (fun F h => by cases h), (fun n e h => by cases h)⟩
instance inf16 : Inf Try.prog 16 1 8 (.pointer none) := ⟨by kernel_rfl⟩
instance ty17 : Ty Try.prog 17 (.pointer 136) := ⟨by kernel_rfl⟩
instance one17 : One Try.prog 17 := ⟨_, ty17.und, (fun F h => by cases h), (fun n e h => by cases h)⟩
instance inf17 : Inf Try.prog 17 1 8 (.pointer none) := ⟨by kernel_rfl⟩
instance stt18 : Stt Try.prog 18 [(17, 0, 1)] := ⟨⟨_, Try.underlying18, by kernel_rfl⟩, by kernel_rfl⟩
instance inf18 : Inf Try.prog 18 1 8 (.agg [.pointer none].toArray) := ⟨by kernel_rfl⟩
instance stt19 : Stt Try.prog 19 [(17, 0, 1)] := ⟨⟨_, Try.underlying19, by kernel_rfl⟩, by kernel_rfl⟩
instance inf19 : Inf Try.prog 19 1 8 (.agg [.pointer none].toArray) := ⟨by kernel_rfl⟩
instance inf20 : Inf Try.prog 20 1 16 (.nilIface) := ⟨by kernel_rfl⟩
instance ty21 : Ty Try.prog 21 (.int .i32) := ⟨by kernel_rfl⟩
instance one21 : One Try.prog 21 := ⟨_, ty21.und, (fun F h => by cases h), (fun n e h => by cases h)⟩
instance inf21 : Inf Try.prog 21 1 4 (.int .i32 0) := ⟨by kernel_rfl⟩
instance ty22 : Ty Try.prog 22 (.slice 33) := ⟨by kernel_rfl⟩
instance one22 : One Try.prog 22 := ⟨_, ty22.und, (fun F h => by cases h), (fun n e h => by cases h)⟩
instance inf22 : Inf Try.prog 22 1 24 (.slice none 0 0) := ⟨by kernel_rfl⟩
instance ty23 : Ty Try.prog 23 (.slice 5) := ⟨by kernel_rfl⟩
instance one23 : One Try.prog 23 := ⟨_, ty23.und, (fun F h => by cases h), (fun n e h => by cases h)⟩
instance inf23 : Inf Try.prog 23 1 24 (.slice none 0 0) := ⟨by kernel_rfl⟩
instance inf24 : Inf Try.prog 24 1 8 (.nilFunc) := ⟨by kernel_rfl⟩
instance inf25 : Inf Try.prog 25 1 8 (.nilFunc) := ⟨by kernel_rfl⟩
instance ty26 : Ty Try.prog 26 (.pointer 79) := ⟨by kernel_rfl⟩
instance one26 : One Try.prog 26 := ⟨_, ty26.und, (fun F h => by cases h), (fun n e h => by cases h)⟩
instance inf26 : Inf Try.prog 26 1 8 (.pointer none) := ⟨by kernel_rfl⟩
instance inf27 : Inf Try.prog 27 1 8 (.nilFunc) := ⟨by kernel_rfl⟩
instance ty28 : Ty Try.prog 28 (.int .u64) := ⟨by kernel_rfl⟩
instance one28 : One Try.prog 28 := ⟨_, ty28.und, (fun F h => by cases h), (fun n e h => by cases h)⟩
instance inf28 : Inf Try.prog 28 1 8 (.int .u64 0) := ⟨by kernel_rfl⟩
instance ty29 : Ty Try.prog 29 (.int .i64) := ⟨by kernel_rfl⟩
instance one29 : One Try.prog 29 := ⟨_, ty29.und, (fun F h => by cases h), (fun n e h => by cases h)⟩
instance inf29 : Inf Try.prog 29 1 8 (.int .i64 0) := ⟨by kernel_rfl⟩
instance inf31 : Inf Try.prog 31 1 8 (.nilFunc) := ⟨by kernel_rfl⟩
instance stt32 : Stt Try.prog 32 [(23, 0, 1), (28, 1, 1)] := ⟨⟨_, Try.underlying32, by kernel_rfl⟩, by kernel_rfl⟩
instance inf32 : Inf Try.prog 32 2 32 (.agg [.slice none 0 0, .int .u64 0].toArray) := ⟨by kernel_rfl⟩
instance stt33 : Stt Try.prog 33 [(23, 0, 1), (28, 1, 1)] := ⟨⟨_, Try.underlying33, by kernel_rfl⟩, by kernel_rfl⟩
instance inf33 : Inf Try.prog 33 2 32 (.agg [.slice none 0 0, .int .u64 0].toArray) := ⟨by kernel_rfl⟩
instance inf35 : Inf Try.prog 35 1 8 (.nilFunc) := ⟨by kernel_rfl⟩
instance inf36 : Inf Try.prog 36 1 8 (.nilFunc) := ⟨by kernel_rfl⟩
instance inf38 : Inf Try.prog 38 1 8 (.nilFunc) := ⟨by kernel_rfl⟩
instance inf39 : Inf Try.prog 39 1 8 (.nilFunc) := ⟨by kernel_rfl⟩
instance inf40 : Inf Try.prog 40 1 8 (.nilFunc) := ⟨by kernel_rfl⟩
instance inf41 : Inf Try.prog 41 1 8 (.nilFunc) := ⟨by kernel_rfl⟩
instance inf42 : Inf Try.prog 42 1 8 (.nilFunc) := ⟨by kernel_rfl⟩
instance inf43 : Inf Try.prog 43 1 8 (.nilFunc) := ⟨by kernel_rfl⟩
instance inf44 : Inf Try.prog 44 1 8 (.nilFunc) := ⟨by kernel_rfl⟩
instance inf45 : Inf Try.prog 45 1 8 (.nilFunc) := ⟨by kernel_rfl⟩
instance inf46 : Inf Try.prog 46 1 8 (.nilFunc) := ⟨by kernel_rfl⟩
instance inf47 : Inf Try.prog 47 1 8 (.nilFunc) := ⟨by kernel_rfl⟩
instance ty48 : Ty Try.prog 48 (.slice 51) := ⟨by kernel_rfl⟩
instance one48 : One Try.prog 48 := ⟨_, ty48.und, (fun F h => by cases h), (fun n e h => by cases h)⟩
instance inf48 : Inf Try.prog 48 1 24 (.slice none 0 0) := ⟨by kernel_rfl⟩
instance inf49 : Inf Try.prog 49 1 8 (.nilFunc) := ⟨by kernel_rfl⟩
instance stt50 : Stt Try.prog 50 [(3, 0, 1), (3, 1, 1), (3, 2, 1), (3, 3, 1), (5, 4, 1), (4, 5, 1), (28, 6, 1), (23, 7, 1), (22, 8, 1)] := ⟨⟨_, Try.underlying50, by kernel_rfl⟩, by kernel_rfl⟩
instance inf50 : Inf Try.prog 50 9 96 (.agg [.int .i64 0, .int .i64 0, .int .i64 0, .int .i64 0, .int .u8 0, .bool false, .int .u64 0, .slice none 0 0, .slice none 0 0].toArray) := ⟨by kernel_rfl⟩
instance stt51 : Stt Try.prog 51 [(3, 0, 1), (3, 1, 1), (3, 2, 1), (3, 3, 1), (5, 4, 1), (4, 5, 1), (28, 6, 1), (23, 7, 1), (22, 8, 1)] := ⟨⟨_, Try.underlying51, by kernel_rfl⟩, by kernel_rfl⟩
instance inf51 : Inf Try.prog 51 9 96 (.agg [.int .i64 0, .int .i64 0, .int .i64 0, .int .i64 0, .int .u8 0, .bool false, .int .u64 0, .slice none 0 0, .slice none 0 0].toArray) := ⟨by kernel_rfl⟩
instance inf52 : Inf Try.prog 52 1 8 (.nilFunc) := ⟨by kernel_rfl⟩
instance ty53 : Ty Try.prog 53 (.pointer 55) := ⟨by kernel_rfl⟩
instance one53 : One Try.prog 53 := ⟨_, ty53.und, (fun F h => by cases h), (fun n e h => by cases h)⟩
instance inf53 : Inf Try.prog 53 1 8 (.pointer none) := ⟨by kernel_rfl⟩
instance stt54 : Stt Try.prog 54 [(22, 0, 1)] := ⟨⟨_, Try.underlying54, by kernel_rfl⟩, by kernel_rfl⟩
instance inf54 : Inf Try.prog 54 1 24 (.agg [.slice none 0 0].toArray) := ⟨by kernel_rfl⟩
instance stt55 : Stt Try.prog 55 [(22, 0, 1)] := ⟨⟨_, Try.underlying55, by kernel_rfl⟩, by kernel_rfl⟩
instance inf55 : Inf Try.prog 55 1 24 (.agg [.slice none 0 0].toArray) := ⟨by kernel_rfl⟩
instance inf56 : Inf Try.prog 56 1 8 (.nilFunc) := ⟨by kernel_rfl⟩
instance inf57 : Inf Try.prog 57 1 8 (.nilFunc) := ⟨by kernel_rfl⟩
instance inf58 : Inf Try.prog 58 1 8 (.nilFunc) := ⟨by kernel_rfl⟩
instance inf59 : Inf Try.prog 59 1 8 (.nilFunc) := ⟨by kernel_rfl⟩
instance inf60 : Inf Try.prog 60 1 8 (.nilFunc) := ⟨by kernel_rfl⟩
instance inf61 : Inf Try.prog 61 1 8 (.nilFunc) := ⟨by kernel_rfl⟩
instance inf62 : Inf Try.prog 62 1 8 (.nilFunc) := ⟨by kernel_rfl⟩
instance inf63 : Inf Try.prog 63 1 8 (.nilFunc) := ⟨by kernel_rfl⟩
instance inf64 : Inf Try.prog 64 1 8 (.nilFunc) := ⟨by kernel_rfl⟩
instance inf65 : Inf Try.prog 65 1 8 (.nilFunc) := ⟨by kernel_rfl⟩
instance ty66 : Ty Try.prog 66 (.slice 68) := ⟨by kernel_rfl⟩
instance one66 : One Try.prog 66 := ⟨_, ty66.und, (fun F h => by cases h), (fun n e h => by cases h)⟩
instance inf66 : Inf Try.prog 66 1 24 (.slice none 0 0) := ⟨by kernel_rfl⟩
instance stt67 : Stt Try.prog 67 [(23, 0, 1), (28, 1, 1), (4, 2, 1)] := ⟨⟨_, Try.underlying67, by kernel_rfl⟩, by kernel_rfl⟩
instance inf67 : Inf Try.prog 67 3 40 (.agg [.slice none 0 0, .int .u64 0, .bool false].toArray) := ⟨by kernel_rfl⟩
instance stt68 : Stt Try.prog 68 [(23, 0, 1), (28, 1, 1), (4, 2, 1)] := ⟨⟨_, Try.underlying68, by kernel_rfl⟩, by kernel_rfl⟩
instance inf68 : Inf Try.prog 68 3 40 (.agg [.slice none 0 0, .int .u64 0, .bool false].toArray) := ⟨by kernel_rfl⟩
instance inf69 : Inf Try.prog 69 1 8 (.nilFunc) := ⟨by kernel_rfl⟩
instance inf70 : Inf Try.prog 70 1 8 (.nilFunc) := ⟨by kernel_rfl⟩
instance inf71 : Inf Try.prog 71 1 8 (.nilFunc) := ⟨by kernel_rfl⟩
instance ty72 : Ty Try.prog 72 (.slice 28) := ⟨by kernel_rfl⟩
instance one72 : One Try.prog 72 := ⟨_, ty72.und, (fun F h => by cases h), (fun n e h => by cases h)⟩
instance inf72 : Inf Try.prog 72 1 24 (.slice none 0 0) := ⟨by kernel_rfl⟩
instance ty73 : Ty Try.prog 73 (.slice 4) := ⟨by kernel_rfl⟩
instance one73 : One Try.prog 73 := ⟨_, ty73.und, (fun F h => by cases h), (fun n e h => by cases h)⟩
instance inf73 : Inf Try.prog 73 1 24 (.slice none 0 0) := ⟨by kernel_rfl⟩
instance inf74 : Inf Try.prog 74 1 8 (.nilFunc) := ⟨by kernel_rfl⟩
instance ty75 : Ty Try.prog 75 (.pointer 99) := ⟨by kernel_rfl⟩
instance one75 : One Try.prog 75 := ⟨_, ty75.und, (fun F h => by cases h), (fun n e h => by cases h)⟩
instance inf75 : Inf Try.prog 75 1 8 (.pointer none) := ⟨by kernel_rfl⟩
instance inf76 : Inf Try.prog 76 1 8 (.nilFunc) := ⟨by kernel_rfl⟩
instance ty77 : Ty Try.prog 77 (.pointer 102) := ⟨by kernel_rfl⟩
instance one77 : One Try.prog 77 := ⟨_, ty77.und, (fun F h => by cases h), (fun n e h => by cases h)⟩
instance inf77 : Inf Try.prog 77 1 8 (.pointer none) := ⟨by kernel_rfl⟩
instance stt78 : Stt Try.prog 78 [(75, 0, 1), (3, 1, 1), (77, 2, 1), (3, 3, 1)] := ⟨⟨_, Try.underlying78, by kernel_rfl⟩, by kernel_rfl⟩
instance inf78 : Inf Try.prog 78 4 32 (.agg [.pointer none, .int .i64 0, .pointer none, .int .i64 0].toArray) := ⟨by kernel_rfl⟩
instance stt79 : Stt Try.prog 79 [(75, 0, 1), (3, 1, 1), (77, 2, 1), (3, 3, 1)] := ⟨⟨_, Try.underlying79, by kernel_rfl⟩, by kernel_rfl⟩
instance inf79 : Inf Try.prog 79 4 32 (.agg [.pointer none, .int .i64 0, .pointer none, .int .i64 0].toArray) := ⟨by kernel_rfl⟩
instance inf80 : Inf Try.prog 80 1 8 (.nilFunc) := ⟨by kernel_rfl⟩
instance inf81 : Inf Try.prog 81 1 8 (.nilFunc) := ⟨by kernel_rfl⟩
instance inf82 : Inf Try.prog 82 1 8 (.nilFunc) := ⟨by kernel_rfl⟩
instance inf84 : Inf Try.prog 84 1 8 (.nilFunc) := ⟨by kernel_rfl⟩
instance inf85 : Inf Try.prog 85 1 8 (.nilFunc) := ⟨by kernel_rfl⟩
instance ty86 : Ty Try.prog 86 (.int .u64) := ⟨by kernel_rfl⟩
instance one86 : One Try.prog 86 := ⟨_, ty86.und, (fun F h => by cases h), (fun n e h => by cases h)⟩
instance inf86 : Inf Try.prog 86 1 8 (.int .u64 0) := ⟨by kernel_rfl⟩
instance inf87 : Inf Try.prog 87 1 8 (.nilFunc) := ⟨by kernel_rfl⟩
instance inf89 : Inf Try.prog 89 1 8 (.nilFunc) := ⟨by kernel_rfl⟩
instance inf90 : Inf Try.prog 90 1 8 (.nilFunc) := ⟨by kernel_rfl⟩
instance inf91 : Inf Try.prog 91 1 8 (.nilFunc) := ⟨by kernel_rfl⟩
instance inf92 : Inf Try.prog 92 1 8 (.nilFunc) := ⟨by kernel_rfl⟩
instance inf93 : Inf Try.prog 93 1 8 (.nilFunc) := ⟨by kernel_rfl⟩
instance stt94 : Stt Try.prog 94 [(22, 0, 1), (3, 1, 1), (3, 2, 1), (4, 3, 1)] := ⟨⟨_, Try.underlying94, by kernel_rfl⟩, by kernel_rfl⟩
instance inf94 : Inf Try.prog 94 4 48 (.agg [.slice none 0 0, .int .i64 0, .int .i64 0, .bool false].toArray) := ⟨by kernel_rfl⟩
instance stt95 : Stt Try.prog 95 [(22, 0, 1), (3, 1, 1), (3, 2, 1), (4, 3, 1)] := ⟨⟨_, Try.underlying95, by kernel_rfl⟩, by kernel_rfl⟩
instance inf95 : Inf Try.prog 95 4 48 (.agg [.slice none 0 0, .int .i64 0, .int .i64 0, .bool false].toArray) := ⟨by kernel_rfl⟩
instance inf96 : Inf Try.prog 96 1 8 (.nilFunc) := ⟨by kernel_rfl⟩
instance inf97 : Inf Try.prog 97 1 8 (.nilFunc) := ⟨by kernel_rfl⟩
instance stt98 : Stt Try.prog 98 [(22, 0, 1)] := ⟨⟨_, Try.underlying98, by kernel_rfl⟩, by kernel_rfl⟩
instance inf98 : Inf Try.prog 98 1 24 (.agg [.slice none 0 0].toArray) := ⟨by kernel_rfl⟩
instance stt99 : Stt Try.prog 99 [(22, 0, 1)] := ⟨⟨_, Try.underlying99, by kernel_rfl⟩, by kernel_rfl⟩
instance inf99 : Inf Try.prog 99 1 24 (.agg [.slice none 0 0].toArray) := ⟨by kernel_rfl⟩
instance ty100 : Ty Try.prog 100 (.map 5 77) := ⟨by kernel_rfl⟩
instance one100 : One Try.prog 100 := ⟨_, ty100.und, (fun F h => by cases h), (fun n e h => by cases h)⟩
instance inf100 : Inf Try.prog 100 1 8 (.map none) := ⟨by kernel_rfl⟩
instance stt101 : Stt Try.prog 101 [(23, 0, 1), (22, 1, 1), (4, 2, 1), (28, 3, 1), (100, 4, 1)] := ⟨⟨_, Try.underlying101, by kernel_rfl⟩, by kernel_rfl⟩
instance inf101 : Inf Try.prog 101 5 72 (.agg [.slice none 0 0, .slice none 0 0, .bool false, .int .u64 0, .map none].toArray) := ⟨by kernel_rfl⟩
instance stt102 : Stt Try.prog 102 [(23, 0, 1), (22, 1, 1), (4, 2, 1), (28, 3, 1), (100, 4, 1)] := ⟨⟨_, Try.underlying102, by kernel_rfl⟩, by kernel_rfl⟩
instance inf102 : Inf Try.prog 102 5 72 (.agg [.slice none 0 0, .slice none 0 0, .bool false, .int .u64 0, .map none].toArray) := ⟨by kernel_rfl⟩
instance inf103 : Inf Try.prog 103 1 8 (.nilFunc) := ⟨by kernel_rfl⟩
instance inf104 : Inf Try.prog 104 1 8 (.nilFunc) := ⟨by kernel_rfl⟩
instance inf105 : Inf Try.prog 105 1 8 (.nilFunc) := ⟨by kernel_rfl⟩
instance inf106 : Inf Try.prog 106 1 8 (.nilFunc) := ⟨by kernel_rfl⟩
instance inf107 : Inf Try.prog 107 1 8 (.nilFunc) := ⟨by kernel_rfl⟩
instance inf108 : Inf Try.prog 108 1 8 (.nilFunc) := ⟨by kernel_rfl⟩
instance inf109 : Inf Try.prog 109 1 8 (.nilFunc) := ⟨by kernel_rfl⟩
instance inf110 : Inf Try.prog 110 1 8 (.nilFunc) := ⟨by kernel_rfl⟩
instance inf111 : Inf Try.prog 111 1 8 (.nilFunc) := ⟨by kernel_rfl⟩
instance inf112 : Inf Try.prog 112 1 8 (.nilFunc) := ⟨by kernel_rfl⟩
instance inf113 : Inf Try.prog 113 1 8 (.nilFunc) := ⟨by kernel_rfl⟩
instance inf114 : Inf Try.prog 114 1 8 (.nilFunc) := ⟨by kernel_rfl⟩
instance inf115 : Inf Try.prog 115 1 8 (.nilFunc) := ⟨by kernel_rfl⟩
instance inf116 : Inf Try.prog 116 1 8 (.nilFunc) := ⟨by kernel_rfl⟩
instance inf117 : Inf Try.prog 117 1 8 (.nilFunc) := ⟨by kernel_rfl⟩
instance inf118 : Inf Try.prog 118 1 8 (.nilFunc) := ⟨by kernel_rfl⟩
instance inf119 : Inf Try.prog 119 1 8 (.nilFunc) := ⟨by kernel_rfl⟩
instance inf120 : Inf Try.prog 120 1 8 (.nilFunc) := ⟨by kernel_rfl⟩
instance inf121 : Inf Try.prog 121 1 8 (.nilFunc) := ⟨by kernel_rfl⟩
instance inf122 : Inf Try.prog 122 1 8 (.nilFunc) := ⟨by kernel_rfl⟩
instance stt123 : Stt Try.prog 123 [(17, 0, 1), (17, 1, 1), (17, 2, 1), (9, 3, 1)] := ⟨⟨_, Try.underlying123, by kernel_rfl⟩, by kernel_rfl⟩
instance inf123 : Inf Try.prog 123 4 40 (.agg [.pointer none, .pointer none, .pointer none, .string ⟨#[]⟩].toArray) := ⟨by kernel_rfl⟩
instance stt124 : Stt Try.prog 124 [(17, 0, 1), (17, 1, 1), (17, 2, 1), (9, 3, 1)] := ⟨⟨_, Try.underlying124, by kernel_rfl⟩, by kernel_rfl⟩
instance inf124 : Inf Try.prog 124 4 40 (.agg [.pointer none, .pointer none, .pointer none, .string ⟨#[]⟩].toArray) := ⟨by kernel_rfl⟩
instance stt126 : Stt Try.prog 126 [(125, 0, 0)] := ⟨⟨_, Try.underlying126, by kernel_rfl⟩, by kernel_rfl⟩
instance stt127 : Stt Try.prog 127 [(125, 0, 0)] := ⟨⟨_, Try.underlying127, by kernel_rfl⟩, by kernel_rfl⟩
instance ty128 : Ty Try.prog 128 (.int .u32) := ⟨by kernel_rfl⟩
instance one128 : One Try.prog 128 := ⟨_, ty128.und, (fun F h => by cases h), (fun n e h => by cases h)⟩
instance inf128 : Inf Try.prog 128 1 4 (.int .u32 0) := ⟨by kernel_rfl⟩
instance ty129 : Ty Try.prog 129 (.int .u8) := ⟨by kernel_rfl⟩
instance one129 : One Try.prog 129 := ⟨_, ty129.und, (fun F h => by cases h), (fun n e h => by cases h)⟩
instance inf129 : Inf Try.prog 129 1 1 (.int .u8 0) := ⟨by kernel_rfl⟩
instance ty130 : Ty Try.prog 130 (.int .u8) := ⟨by kernel_rfl⟩
instance one130 : One Try.prog 130 := ⟨_, ty130.und, (fun F h => by cases h), (fun n e h => by cases h)⟩
instance inf130 : Inf Try.prog 130 1 1 (.int .u8 0) := ⟨by kernel_rfl⟩
instance inf131 : Inf Try.prog 131 1 8 (.nilFunc) := ⟨by kernel_rfl⟩
instance ty132 : Ty Try.prog 132 (.pointer 5) := ⟨by kernel_rfl⟩
instance one132 : One Try.prog 132 := ⟨_, ty132.und, (fun F h => by cases h), (fun n e h => by cases h)⟩
instance inf132 : Inf Try.prog 132 1 8 (.pointer none) := ⟨by kernel_rfl⟩
instance ty133 : Ty Try.prog 133 (.int .i32) := ⟨by kernel_rfl⟩
instance one133 : One Try.prog 133 := ⟨_, ty133.und, (fun F h => by cases h), (fun n e h => by cases h)⟩
instance inf133 : Inf Try.prog 133 1 4 (.int .i32 0) := ⟨by kernel_rfl⟩
instance ty134 : Ty Try.prog 134 (.int .i32) := ⟨by kernel_rfl⟩
instance one134 : One Try.prog 134 := ⟨_, ty134.und, (fun F h => by cases h), (fun n e h => by cases h)⟩
instance inf134 : Inf Try.prog 134 1 4 (.int .i32 0) := ⟨by kernel_rfl⟩
instance stt135 : Stt Try.prog 135 [(12, 0, 1), (12, 1, 1), (128, 2, 1), (129, 3, 1), (5, 4, 1), (5, 5, 1), (130, 6, 1), (131, 7, 1), (132, 8, 1), (133, 9, 1), (134, 10, 1)] := ⟨⟨_, Try.underlying135, by kernel_rfl⟩, by kernel_rfl⟩
instance inf135 : Inf Try.prog 135 11 48 (.agg [.int .u64 0, .int .u64 0, .int .u32 0, .int .u8 0, .int .u8 0, .int .u8 0, .int .u8 0, .nilFunc, .pointer none, .int .i32 0, .int .i32 0].toArray) := ⟨by kernel_rfl⟩
instance stt136 : Stt Try.prog 136 [(12, 0, 1), (12, 1, 1), (128, 2, 1), (129, 3, 1), (5, 4, 1), (5, 5, 1), (130, 6, 1), (131, 7, 1), (132, 8, 1), (133, 9, 1), (134, 10, 1)] := ⟨⟨_, Try.underlying136, by kernel_rfl⟩, by kernel_rfl⟩
instance inf136 : Inf Try.prog 136 11 48 (.agg [.int .u64 0, .int .u64 0, .int .u32 0, .int .u8 0, .int .u8 0, .int .u8 0, .int .u8 0, .nilFunc, .pointer none, .int .i32 0, .int .i32 0].toArray) := ⟨by kernel_rfl⟩
instance inf137 : Inf Try.prog 137 1 8 (.pointer none) := ⟨by kernel_rfl⟩
instance fnc2 : Fnc Try.prog 2 := ⟨_, Try.func2, by kernel_rfl, rfl⟩
instance fnc3 : Fnc Try.prog 3 := ⟨_, Try.func3, by kernel_rfl, rfl⟩
instance fnc4 : Fnc Try.prog 4 := ⟨_, Try.func4, by kernel_rfl, rfl⟩
instance fnc5 : Fnc Try.prog 5 := ⟨_, Try.func5, by kernel_rfl, rfl⟩
instance fnc6 : Fnc Try.prog 6 := ⟨_, Try.func6, by kernel_rfl, rfl⟩
instance fnc7 : Fnc Try.prog 7 := ⟨_, Try.func7, by kernel_rfl, rfl⟩
instance fnc8 : Fnc Try.prog 8 := ⟨_, Try.func8, by kernel_rfl, rfl⟩
instance fnc9 : Fnc Try.prog 9 := ⟨_, Try.func9, by kernel_rfl, rfl⟩
instance fnc10 : Fnc Try.prog 10 := ⟨_, Try.func10, by kernel_rfl, rfl⟩
instance fnc11 : Fnc Try.prog 11 := ⟨_, Try.func11, by kernel_rfl, rfl⟩
instance fnc12 : Fnc Try.prog 12 := ⟨_, Try.func12, by kernel_rfl, rfl⟩
instance fnc13 : Fnc Try.prog 13 := ⟨_, Try.func13, by kernel_rfl, rfl⟩
instance fnc14 : Fnc Try.prog 14 := ⟨_, Try.func14, by kernel_rfl, rfl⟩
instance fnc15 : Fnc Try.prog 15 := ⟨_, Try.func15, by kernel_rfl, rfl⟩
instance fnc16 : Fnc Try.prog 16 := ⟨_, Try.func16, by kernel_rfl, rfl⟩
instance fnc17 : Fnc Try.prog 17 := ⟨_, Try.func17, by kernel_rfl, rfl⟩
instance fnc18 : Fnc Try.prog 18 := ⟨_, Try.func18, by kernel_rfl, rfl⟩
instance fnc19 : Fnc Try.prog 19 := ⟨_, Try.func19, by kernel_rfl, rfl⟩
instance fnc20 : Fnc Try.prog 20 := ⟨_, Try.func20, by kernel_rfl, rfl⟩
instance fnc21 : Fnc Try.prog 21 := ⟨_, Try.func21, by kernel_rfl, rfl⟩
instance fnc22 : Fnc Try.prog 22 := ⟨_, Try.func22, by kernel_rfl, rfl⟩
instance fnc23 : Fnc Try.prog 23 := ⟨_, Try.func23, by kernel_rfl, rfl⟩
instance fnc24 : Fnc Try.prog 24 := ⟨_, Try.func24, by kernel_rfl, rfl⟩
instance fnc25 : Fnc Try.prog 25 := ⟨_, Try.func25, by kernel_rfl, rfl⟩
instance fnc26 : Fnc Try.prog 26 := ⟨_, Try.func26, by kernel_rfl, rfl⟩
instance fnc27 : Fnc Try.prog 27 := ⟨_, Try.func27, by kernel_rfl, rfl⟩
instance fnc28 : Fnc Try.prog 28 := ⟨_, Try.func28, by kernel_rfl, rfl⟩
instance fnc29 : Fnc Try.prog 29 := ⟨_, Try.func29, by kernel_rfl, rfl⟩
instance fnc30 : Fnc Try.prog 30 := ⟨_, Try.func30, by kernel_rfl, rfl⟩
instance fnc31 : Fnc Try.prog 31 := ⟨_, Try.func31, by kernel_rfl, rfl⟩
instance fnc32 : Fnc Try.prog 32 := ⟨_, Try.func32, by kernel_rfl, rfl⟩
instance fnc33 : Fnc Try.prog 33 := ⟨_, Try.func33, by kernel_rfl, rfl⟩
instance fnc34 : Fnc Try.prog 34 := ⟨_, Try.func34, by kernel_rfl, rfl⟩
instance fnc35 : Fnc Try.prog 35 := ⟨_, Try.func35, by kernel_rfl, rfl⟩
instance fnc36 : Fnc Try.prog 36 := ⟨_, Try.func36, by kernel_rfl, rfl⟩
instance fnc37 : Fnc Try.prog 37 := ⟨_, Try.func37, by kernel_rfl, rfl⟩
instance fnc38 : Fnc Try.prog 38 := ⟨_, Try.func38, by kernel_rfl, rfl⟩
instance fnc39 : Fnc Try.prog 39 := ⟨_, Try.func39, by kernel_rfl, rfl⟩
instance fnc40 : Fnc Try.prog 40 := ⟨_, Try.func40, by kernel_rfl, rfl⟩
instance fnc41 : Fnc Try.prog 41 := ⟨_, Try.func41, by kernel_rfl, rfl⟩
instance fnc42 : Fnc Try.prog 42 := ⟨_, Try.func42, by kernel_rfl, rfl⟩
instance fnc43 : Fnc Try.prog 43 := ⟨_, Try.func43, by kernel_rfl, rfl⟩
instance fnc44 : Fnc Try.prog 44 := ⟨_, Try.func44, by kernel_rfl, rfl⟩
instance fnc45 : Fnc Try.prog 45 := ⟨_, Try.func45, by kernel_rfl, rfl⟩
instance fnc46 : Fnc Try.prog 46 := ⟨_, Try.func46, by kernel_rfl, rfl⟩
instance fnc47 : Fnc Try.prog 47 := ⟨_, Try.func47, by kernel_rfl, rfl⟩
instance fnc48 : Fnc Try.prog 48 := ⟨_, Try.func48, by kernel_rfl, rfl⟩
instance fnc49 : Fnc Try.prog 49 := ⟨_, Try.func49, by kernel_rfl, rfl⟩
instance fnc50 : Fnc Try.prog 50 := ⟨_, Try.func50, by kernel_rfl, rfl⟩
instance fnc51 : Fnc Try.prog 51 := ⟨_, Try.func51, by kernel_rfl, rfl⟩
instance fnc52 : Fnc Try.prog 52 := ⟨_, Try.func52, by kernel_rfl, rfl⟩
instance fnc53 : Fnc Try.prog 53 := ⟨_, Try.func53, by kernel_rfl, rfl⟩
instance fnc54 : Fnc Try.prog 54 := ⟨_, Try.func54, by kernel_rfl, rfl⟩
instance fnc55 : Fnc Try.prog 55 := ⟨_, Try.func55, by kernel_rfl, rfl⟩
instance fnc56 : Fnc Try.prog 56 := ⟨_, Try.func56, by kernel_rfl, rfl⟩
instance fnc57 : Fnc Try.prog 57 := ⟨_, Try.func57, by kernel_rfl, rfl⟩
instance fnc58 : Fnc Try.prog 58 := ⟨_, Try.func58, by kernel_rfl, rfl⟩
instance fnc59 : Fnc Try.prog 59 := ⟨_, Try.func59, by kernel_rfl, rfl⟩
instance fnc60 : Fnc Try.prog 60 := ⟨_, Try.func60, by kernel_rfl, rfl⟩
instance fnc61 : Fnc Try.prog 61 := ⟨_, Try.func61, by kernel_rfl, rfl⟩
instance fnc62 : Fnc Try.prog 62 := ⟨_, Try.func62, by kernel_rfl, rfl⟩
instance fnc63 : Fnc Try.prog 63 := ⟨_, Try.func63, by kernel_rfl, rfl⟩
instance fnc64 : Fnc Try.prog 64 := ⟨_, Try.func64, by kernel_rfl, rfl⟩
instance fnc65 : Fnc Try.prog 65 := ⟨_, Try.func65, by kernel_rfl, rfl⟩
instance fnc66 : Fnc Try.prog 66 := ⟨_, Try.func66, by kernel_rfl, rfl⟩
instance fnc67 : Fnc Try.prog 67 := ⟨_, Try.func67, by kernel_rfl, rfl⟩
instance fnc68 : Fnc Try.prog 68 := ⟨_, Try.func68, by kernel_rfl, rfl⟩
instance fnc69 : Fnc Try.prog 69 := ⟨_, Try.func69, by kernel_rfl, rfl⟩
instance fnc70 : Fnc Try.prog 70 := ⟨_, Try.func70, by kernel_rfl, rfl⟩
instance fnc71 : Fnc Try.prog 71 := ⟨_, Try.func71, by kernel_rfl, rfl⟩
instance fnc72 : Fnc Try.prog 72 := ⟨_, Try.func72, by kernel_rfl, rfl⟩
instance fnc73 : Fnc Try.prog 73 := ⟨_, Try.func73, by kernel_rfl, rfl⟩
instance fnc74 : Fnc Try.prog 74 := ⟨_, Try.func74, by kernel_rfl, rfl⟩
instance fnc75 : Fnc Try.prog 75 := ⟨_, Try.func75, by kernel_rfl, rfl⟩
instance fnc76 : Fnc Try.prog 76 := ⟨_, Try.func76, by kernel_rfl, rfl⟩
instance fnc77 : Fnc Try.prog 77 := ⟨_, Try.func77, by kernel_rfl, rfl⟩
instance fnc78 : Fnc Try.prog 78 := ⟨_, Try.func78, by kernel_rfl, rfl⟩
instance fnc79 : Fnc Try.prog 79 := ⟨_, Try.func79, by kernel_rfl, rfl⟩
instance fnc80 : Fnc Try.prog 80 := ⟨_, Try.func80, by kernel_rfl, rfl⟩
instance fnc81 : Fnc Try.prog 81 := ⟨_, Try.func81, by kernel_rfl, rfl⟩
instance fnc82 : Fnc Try.prog 82 := ⟨_, Try.func82, by kernel_rfl, rfl⟩
instance fnc83 : Fnc Try.prog 83 := ⟨_, Try.func83, by kernel_rfl, rfl⟩
instance fnc84 : Fnc Try.prog 84 := ⟨_, Try.func84, by kernel_rfl, rfl⟩
instance fnc85 : Fnc Try.prog 85 := ⟨_, Try.func85, by kernel_rfl, rfl⟩
instance fnc86 : Fnc Try.prog 86 := ⟨_, Try.func86, by kernel_rfl, rfl⟩
instance fnc87 : Fnc Try.prog 87 := ⟨_, Try.func87, by kernel_rfl, rfl⟩
instance fnc88 : Fnc Try.prog 88 := ⟨_, Try.func88, by kernel_rfl, rfl⟩
instance fnc89 : Fnc Try.prog 89 := ⟨_, Try.func89, by kernel_rfl, rfl⟩
instance fnc90 : Fnc Try.prog 90 := ⟨_, Try.func90, by kernel_rfl, rfl⟩
instance fnc91 : Fnc Try.prog 91 := ⟨_, Try.func91, by kernel_rfl, rfl⟩
instance fnc92 : Fnc Try.prog 92 := ⟨_, Try.func92, by kernel_rfl, rfl⟩
instance fnc93 : Fnc Try.prog 93 := ⟨_, Try.func93, by kernel_rfl, rfl⟩
instance fnc94 : Fnc Try.prog 94 := ⟨_, Try.func94, by kernel_rfl, rfl⟩
instance fnc95 : Fnc Try.prog 95 := ⟨_, Try.func95, by kernel_rfl, rfl⟩
instance fnc96 : Fnc Try.prog 96 := ⟨_, Try.func96, by kernel_rfl, rfl⟩
instance fnc97 : Fnc Try.prog 97 := ⟨_, Try.func97, by kernel_rfl, rfl⟩
instance fnc98 : Fnc Try.prog 98 := ⟨_, Try.func98, by kernel_rfl, rfl⟩
instance fnc99 : Fnc Try.prog 99 := ⟨_, Try.func99, by kernel_rfl, rfl⟩
instance fnc100 : Fnc Try.prog 100 := ⟨_, Try.func100, by kernel_rfl, rfl⟩
instance fnc101 : Fnc Try.prog 101 := ⟨_, Try.func101, by kernel_rfl, rfl⟩
instance fnc102 : Fnc Try.prog 102 := ⟨_, Try.func102, by kernel_rfl, rfl⟩
instance fnc104 : Fnc Try.prog 104 := ⟨_, Try.func104, by kernel_rfl, rfl⟩
instance fnc105 : Fnc Try.prog 105 := ⟨_, Try.func105, by kernel_rfl, rfl⟩
instance fnc106 : Fnc Try.prog 106 := ⟨_, Try.func106, by kernel_rfl, rfl⟩
instance fnc107 : Fnc Try.prog 107 := ⟨_, Try.func107, by kernel_rfl, rfl⟩
instance fnc108 : Fnc Try.prog 108 := ⟨_, Try.func108, by kernel_rfl, rfl⟩
instance fnc109 : Fnc Try.prog 109 := ⟨_, Try.func109, by kernel_rfl, rfl⟩
instance fnc110 : Fnc Try.prog 110 := ⟨_, Try.func110, by kernel_rfl, rfl⟩
instance fnc111 : Fnc Try.prog 111 := ⟨_, Try.func111, by kernel_rfl, rfl⟩
instance fnc112 : Fnc Try.prog 112 := ⟨_, Try.func112, by kernel_rfl, rfl⟩
instance fnc113 : Fnc Try.prog 113 := ⟨_, Try.func113, by kernel_rfl, rfl⟩
instance fnc114 : Fnc Try.prog 114 := ⟨_, Try.func114, by kernel_rfl, rfl⟩
instance fnc115 : Fnc Try.prog 115 := ⟨_, Try.func115, by kernel_rfl, rfl⟩
instance fnc116 : Fnc Try.prog 116 := ⟨_, Try.func116, by kernel_rfl, rfl⟩
instance fnc117 : Fnc Try.prog 117 := ⟨_, Try.func117, by kernel_rfl, rfl⟩
instance fnc119 : Fnc Try.prog 119 := ⟨_, Try.func119, by kernel_rfl, rfl⟩
instance cmp118 : IsCmp Try.prog 118 := ⟨_, Try.func118, by kernel_rfl, rfl, by kernel_rfl, by kernel_rfl⟩
theorem mixed : Try.prog.follows .mixedOrders = true := by kernel_rfl
end Go.Proofs.Ytaloblomncjgkaa.X
