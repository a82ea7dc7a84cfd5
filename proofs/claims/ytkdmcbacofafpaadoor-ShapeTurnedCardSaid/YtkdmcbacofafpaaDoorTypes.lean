/- The types and functions of the program, as instances. -/
import Derived.Test.YtkdmcbacofafpaaDoorChecked
import Derived.Test.YtkdmcbacofafpaaDoorXlib
namespace Go.Proofs.YtkdmcbacofafpaaDoor.X
open Go Go.Proofs
instance inf1 : Inf Tryd.prog 1 1 8 (.nilFunc) := ⟨by kernel_rfl⟩
instance ty2 : Ty Tryd.prog 2 (.int .i64) := ⟨by kernel_rfl⟩
instance one2 : One Tryd.prog 2 := ⟨_, ty2.und, (fun F h => by cases h), (fun n e h => by cases h)⟩
instance inf2 : Inf Tryd.prog 2 1 8 (.int .i64 0) := ⟨by kernel_rfl⟩
instance ty3 : Ty Tryd.prog 3 (.int .i64) := ⟨by kernel_rfl⟩
instance one3 : One Tryd.prog 3 := ⟨_, ty3.und, (fun F h => by cases h), (fun n e h => by cases h)⟩
instance inf3 : Inf Tryd.prog 3 1 8 (.int .i64 0) := ⟨by kernel_rfl⟩
instance ty4 : Ty Tryd.prog 4 .bool := ⟨by kernel_rfl⟩
instance one4 : One Tryd.prog 4 := ⟨_, ty4.und, (fun F h => by cases h), (fun n e h => by cases h)⟩
instance inf4 : Inf Tryd.prog 4 1 1 (.bool false) := ⟨by kernel_rfl⟩
instance ty5 : Ty Tryd.prog 5 (.int .u8) := ⟨by kernel_rfl⟩
instance one5 : One Tryd.prog 5 := ⟨_, ty5.und, (fun F h => by cases h), (fun n e h => by cases h)⟩
instance inf5 : Inf Tryd.prog 5 1 1 (.int .u8 0) := ⟨by kernel_rfl⟩
instance ty6 : Ty Tryd.prog 6 (.int .u8) := ⟨by kernel_rfl⟩
instance one6 : One Tryd.prog 6 := ⟨_, ty6.und, (fun F h => by cases h), (fun n e h => by cases h)⟩
instance inf6 : Inf Tryd.prog 6 1 1 (.int .u8 0) := ⟨by kernel_rfl⟩
instance stt7 : Stt Tryd.prog 7 [(2, 0, 1), (3, 1, 1), (4, 2, 1), (6, 3, 1)] := ⟨⟨_, Tryd.underlying7, by kernel_rfl⟩, by kernel_rfl⟩
instance inf7 : Inf Tryd.prog 7 4 24 (.agg [.int .i64 0, .int .i64 0, .bool false, .int .u8 0].toArray) := ⟨by kernel_rfl⟩
instance stt8 : Stt Tryd.prog 8 [(2, 0, 1), (3, 1, 1), (4, 2, 1), (6, 3, 1)] := ⟨⟨_, Tryd.underlying8, by kernel_rfl⟩, by kernel_rfl⟩
instance inf8 : Inf Tryd.prog 8 4 24 (.agg [.int .i64 0, .int .i64 0, .bool false, .int .u8 0].toArray) := ⟨by kernel_rfl⟩
instance ty9 : Ty Tryd.prog 9 .string := ⟨by kernel_rfl⟩
instance one9 : One Tryd.prog 9 := ⟨_, ty9.und, (fun F h => by cases h), (fun n e h => by cases h)⟩
instance inf9 : Inf Tryd.prog 9 1 16 (.string ⟨#[]⟩) := ⟨by kernel_rfl⟩
instance ty10 : Ty Tryd.prog 10 .string := ⟨by kernel_rfl⟩
instance one10 : One Tryd.prog 10 := ⟨_, ty10.und, (fun F h => by cases h), (fun n e h => by cases h)⟩
instance inf10 : Inf Tryd.prog 10 1 16 (.string ⟨#[]⟩) := ⟨by kernel_rfl⟩
instance ty11 : Ty Tryd.prog 11 .string := ⟨by kernel_rfl⟩
instance one11 : One Tryd.prog 11 := ⟨_, ty11.und, (fun F h => by cases h), (fun n e h => by cases h)⟩
instance inf11 : Inf Tryd.prog 11 1 16 (.string ⟨#[]⟩) := ⟨by kernel_rfl⟩
instance ty12 : Ty Tryd.prog 12 (.int .u64) := ⟨by kernel_rfl⟩
instance one12 : One Tryd.prog 12 := ⟨_, ty12.und, (fun F h => by cases h), (fun n e h => by cases h)⟩
instance inf12 : Inf Tryd.prog 12 1 8 (.int .u64 0) := ⟨by kernel_rfl⟩
instance stt13 : Stt Tryd.prog 13 [(9, 0, 1), (12, 1, 1)] := ⟨⟨_, Tryd.underlying13, by kernel_rfl⟩, by kernel_rfl⟩
instance inf13 : Inf Tryd.prog 13 2 24 (.agg [.string ⟨#[]⟩, .int .u64 0].toArray) := ⟨by kernel_rfl⟩
instance stt14 : Stt Tryd.prog 14 [(9, 0, 1), (12, 1, 1)] := ⟨⟨_, Tryd.underlying14, by kernel_rfl⟩, by kernel_rfl⟩
instance inf14 : Inf Tryd.prog 14 2 24 (.agg [.string ⟨#[]⟩, .int .u64 0].toArray) := ⟨by kernel_rfl⟩
instance ty15 : Ty Tryd.prog 15 (.pointer 96) := ⟨by kernel_rfl⟩
instance one15 : One Tryd.prog 15 := ⟨_, ty15.und, (fun F h => by cases h), (fun n e h => by cases h)⟩
instance inf15 : Inf Tryd.prog 15 1 8 (.pointer none) := ⟨by kernel_rfl⟩
instance ty16 : Ty Tryd.prog 16 (.pointer 99) := ⟨by kernel_rfl⟩
instance one16 : One Tryd.prog 16 := ⟨_, ty16.und, (fun F h => by cases h), (fun n e h => by cases h)⟩
instance inf16 : Inf Tryd.prog 16 1 8 (.pointer none) := ⟨by kernel_rfl⟩
instance ty17 : Ty Tryd.prog 17 (.pointer 109) := ⟨by kernel_rfl⟩
instance one17 : One Tryd.prog 17 := ⟨_, ty17.und, (fun F h => by cases h), (fun n e h => by cases h)⟩
instance inf17 : Inf Tryd.prog 17 1 8 (.pointer none) := ⟨by kernel_rfl⟩
instance stt18 : Stt Tryd.prog 18 [(17, 0, 1)] := ⟨⟨_, Tryd.underlying18, by kernel_rfl⟩, by kernel_rfl⟩
instance inf18 : Inf Tryd.prog 18 1 8 (.agg [.pointer none].toArray) := ⟨by kernel_rfl⟩
instance stt19 : Stt Tryd.prog 19 [(17, 0, 1)] := ⟨⟨_, Tryd.underlying19, by kernel_rfl⟩, by kernel_rfl⟩
instance inf19 : Inf Tryd.prog 19 1 8 (.agg [.pointer none].toArray) := ⟨by kernel_rfl⟩
instance inf20 : Inf Tryd.prog 20 1 16 (.nilIface) := ⟨by kernel_rfl⟩
instance ty21 : Ty Tryd.prog 21 (.int .i32) := ⟨by kernel_rfl⟩
instance one21 : One Tryd.prog 21 := ⟨_, ty21.und, (fun F h => by cases h), (fun n e h => by cases h)⟩
instance inf21 : Inf Tryd.prog 21 1 4 (.int .i32 0) := ⟨by kernel_rfl⟩
instance ty22 : Ty Tryd.prog 22 (.slice 40) := ⟨by kernel_rfl⟩
instance one22 : One Tryd.prog 22 := ⟨_, ty22.und, (fun F h => by cases h), (fun n e h => by cases h)⟩
instance inf22 : Inf Tryd.prog 22 1 24 (.slice none 0 0) := ⟨by kernel_rfl⟩
instance inf23 : Inf Tryd.prog 23 1 8 (.nilFunc) := ⟨by kernel_rfl⟩
instance inf24 : Inf Tryd.prog 24 1 8 (.nilFunc) := ⟨by kernel_rfl⟩
instance inf25 : Inf Tryd.prog 25 1 8 (.nilFunc) := ⟨by kernel_rfl⟩
instance ty26 : Ty Tryd.prog 26 (.slice 47) := ⟨by kernel_rfl⟩
instance one26 : One Tryd.prog 26 := ⟨_, ty26.und, (fun F h => by cases h), (fun n e h => by cases h)⟩
instance inf26 : Inf Tryd.prog 26 1 24 (.slice none 0 0) := ⟨by kernel_rfl⟩
instance inf27 : Inf Tryd.prog 27 1 8 (.nilFunc) := ⟨by kernel_rfl⟩
instance inf28 : Inf Tryd.prog 28 1 8 (.nilFunc) := ⟨by kernel_rfl⟩
instance ty29 : Ty Tryd.prog 29 (.pointer 33) := ⟨by kernel_rfl⟩
instance one29 : One Tryd.prog 29 := ⟨_, ty29.und, (fun F h => by cases h), (fun n e h => by cases h)⟩
instance inf29 : Inf Tryd.prog 29 1 8 (.pointer none) := ⟨by kernel_rfl⟩
instance inf30 : Inf Tryd.prog 30 1 8 (.nilFunc) := ⟨by kernel_rfl⟩
instance inf31 : Inf Tryd.prog 31 1 8 (.nilFunc) := ⟨by kernel_rfl⟩
instance stt32 : Stt Tryd.prog 32 [(26, 0, 1)] := ⟨⟨_, Tryd.underlying32, by kernel_rfl⟩, by kernel_rfl⟩
instance inf32 : Inf Tryd.prog 32 1 24 (.agg [.slice none 0 0].toArray) := ⟨by kernel_rfl⟩
instance stt33 : Stt Tryd.prog 33 [(26, 0, 1)] := ⟨⟨_, Tryd.underlying33, by kernel_rfl⟩, by kernel_rfl⟩
instance inf33 : Inf Tryd.prog 33 1 24 (.agg [.slice none 0 0].toArray) := ⟨by kernel_rfl⟩
instance inf34 : Inf Tryd.prog 34 1 8 (.nilFunc) := ⟨by kernel_rfl⟩
instance inf35 : Inf Tryd.prog 35 1 8 (.nilFunc) := ⟨by kernel_rfl⟩
instance inf36 : Inf Tryd.prog 36 1 8 (.nilFunc) := ⟨by kernel_rfl⟩
instance ty37 : Ty Tryd.prog 37 (.int .u64) := ⟨by kernel_rfl⟩
instance one37 : One Tryd.prog 37 := ⟨_, ty37.und, (fun F h => by cases h), (fun n e h => by cases h)⟩
instance inf37 : Inf Tryd.prog 37 1 8 (.int .u64 0) := ⟨by kernel_rfl⟩
instance ty38 : Ty Tryd.prog 38 (.slice 5) := ⟨by kernel_rfl⟩
instance one38 : One Tryd.prog 38 := ⟨_, ty38.und, (fun F h => by cases h), (fun n e h => by cases h)⟩
instance inf38 : Inf Tryd.prog 38 1 24 (.slice none 0 0) := ⟨by kernel_rfl⟩
instance stt39 : Stt Tryd.prog 39 [(3, 0, 1), (3, 1, 1), (3, 2, 1), (3, 3, 1), (5, 4, 1), (4, 5, 1), (37, 6, 1), (38, 7, 1), (26, 8, 1)] := ⟨⟨_, Tryd.underlying39, by kernel_rfl⟩, by kernel_rfl⟩
instance inf39 : Inf Tryd.prog 39 9 96 (.agg [.int .i64 0, .int .i64 0, .int .i64 0, .int .i64 0, .int .u8 0, .bool false, .int .u64 0, .slice none 0 0, .slice none 0 0].toArray) := ⟨by kernel_rfl⟩
instance stt40 : Stt Tryd.prog 40 [(3, 0, 1), (3, 1, 1), (3, 2, 1), (3, 3, 1), (5, 4, 1), (4, 5, 1), (37, 6, 1), (38, 7, 1), (26, 8, 1)] := ⟨⟨_, Tryd.underlying40, by kernel_rfl⟩, by kernel_rfl⟩
instance inf40 : Inf Tryd.prog 40 9 96 (.agg [.int .i64 0, .int .i64 0, .int .i64 0, .int .i64 0, .int .u8 0, .bool false, .int .u64 0, .slice none 0 0, .slice none 0 0].toArray) := ⟨by kernel_rfl⟩
instance inf41 : Inf Tryd.prog 41 1 8 (.nilFunc) := ⟨by kernel_rfl⟩
instance inf42 : Inf Tryd.prog 42 1 8 (.nilFunc) := ⟨by kernel_rfl⟩
instance inf43 : Inf Tryd.prog 43 1 8 (.nilFunc) := ⟨by kernel_rfl⟩
instance inf44 : Inf Tryd.prog 44 1 8 (.nilFunc) := ⟨by kernel_rfl⟩
instance inf45 : Inf Tryd.prog 45 1 8 (.nilFunc) := ⟨by kernel_rfl⟩
instance stt46 : Stt Tryd.prog 46 [(38, 0, 1), (37, 1, 1)] := ⟨⟨_, Tryd.underlying46, by kernel_rfl⟩, by kernel_rfl⟩
instance inf46 : Inf Tryd.prog 46 2 32 (.agg [.slice none 0 0, .int .u64 0].toArray) := ⟨by kernel_rfl⟩
instance stt47 : Stt Tryd.prog 47 [(38, 0, 1), (37, 1, 1)] := ⟨⟨_, Tryd.underlying47, by kernel_rfl⟩, by kernel_rfl⟩
instance inf47 : Inf Tryd.prog 47 2 32 (.agg [.slice none 0 0, .int .u64 0].toArray) := ⟨by kernel_rfl⟩
instance inf48 : Inf Tryd.prog 48 1 8 (.nilFunc) := ⟨by kernel_rfl⟩
instance inf49 : Inf Tryd.prog 49 1 8 (.nilFunc) := ⟨by kernel_rfl⟩
instance inf50 : Inf Tryd.prog 50 1 8 (.nilFunc) := ⟨by kernel_rfl⟩
instance stt51 : Stt Tryd.prog 51 [(26, 0, 1), (3, 1, 1), (3, 2, 1), (4, 3, 1)] := ⟨⟨_, Tryd.underlying51, by kernel_rfl⟩, by kernel_rfl⟩
instance inf51 : Inf Tryd.prog 51 4 48 (.agg [.slice none 0 0, .int .i64 0, .int .i64 0, .bool false].toArray) := ⟨by kernel_rfl⟩
instance stt52 : Stt Tryd.prog 52 [(26, 0, 1), (3, 1, 1), (3, 2, 1), (4, 3, 1)] := ⟨⟨_, Tryd.underlying52, by kernel_rfl⟩, by kernel_rfl⟩
instance inf52 : Inf Tryd.prog 52 4 48 (.agg [.slice none 0 0, .int .i64 0, .int .i64 0, .bool false].toArray) := ⟨by kernel_rfl⟩
instance inf53 : Inf Tryd.prog 53 1 8 (.nilFunc) := ⟨by kernel_rfl⟩
instance ty54 : Ty Tryd.prog 54 (.int .u64) := ⟨by kernel_rfl⟩
instance one54 : One Tryd.prog 54 := ⟨_, ty54.und, (fun F h => by cases h), (fun n e h => by cases h)⟩
instance inf54 : Inf Tryd.prog 54 1 8 (.int .u64 0) := ⟨by kernel_rfl⟩
instance ty55 : Ty Tryd.prog 55 (.int .i64) := ⟨by kernel_rfl⟩
instance one55 : One Tryd.prog 55 := ⟨_, ty55.und, (fun F h => by cases h), (fun n e h => by cases h)⟩
instance inf55 : Inf Tryd.prog 55 1 8 (.int .i64 0) := ⟨by kernel_rfl⟩
instance inf57 : Inf Tryd.prog 57 1 8 (.nilFunc) := ⟨by kernel_rfl⟩
instance inf58 : Inf Tryd.prog 58 1 8 (.nilFunc) := ⟨by kernel_rfl⟩
instance stt59 : Stt Tryd.prog 59 [(26, 0, 1), (3, 1, 1), (3, 2, 1)] := ⟨⟨_, Tryd.underlying59, by kernel_rfl⟩, by kernel_rfl⟩
instance inf59 : Inf Tryd.prog 59 3 40 (.agg [.slice none 0 0, .int .i64 0, .int .i64 0].toArray) := ⟨by kernel_rfl⟩
instance stt60 : Stt Tryd.prog 60 [(26, 0, 1), (3, 1, 1), (3, 2, 1)] := ⟨⟨_, Tryd.underlying60, by kernel_rfl⟩, by kernel_rfl⟩
instance inf60 : Inf Tryd.prog 60 3 40 (.agg [.slice none 0 0, .int .i64 0, .int .i64 0].toArray) := ⟨by kernel_rfl⟩
instance inf62 : Inf Tryd.prog 62 1 8 (.nilFunc) := ⟨by kernel_rfl⟩
instance inf63 : Inf Tryd.prog 63 1 8 (.nilFunc) := ⟨by kernel_rfl⟩
instance inf64 : Inf Tryd.prog 64 1 8 (.nilFunc) := ⟨by kernel_rfl⟩
instance inf65 : Inf Tryd.prog 65 1 8 (.nilFunc) := ⟨by kernel_rfl⟩
instance inf66 : Inf Tryd.prog 66 1 8 (.nilFunc) := ⟨by kernel_rfl⟩
instance inf67 : Inf Tryd.prog 67 1 8 (.nilFunc) := ⟨by kernel_rfl⟩
instance inf68 : Inf Tryd.prog 68 1 8 (.nilFunc) := ⟨by kernel_rfl⟩
instance inf69 : Inf Tryd.prog 69 1 8 (.nilFunc) := ⟨by kernel_rfl⟩
instance inf70 : Inf Tryd.prog 70 1 8 (.nilFunc) := ⟨by kernel_rfl⟩
instance inf72 : Inf Tryd.prog 72 1 8 (.nilFunc) := ⟨by kernel_rfl⟩
instance ty73 : Ty Tryd.prog 73 (.slice 3) := ⟨by kernel_rfl⟩
instance one73 : One Tryd.prog 73 := ⟨_, ty73.und, (fun F h => by cases h), (fun n e h => by cases h)⟩
instance inf73 : Inf Tryd.prog 73 1 24 (.slice none 0 0) := ⟨by kernel_rfl⟩
instance stt74 : Stt Tryd.prog 74 [(22, 0, 1)] := ⟨⟨_, Tryd.underlying74, by kernel_rfl⟩, by kernel_rfl⟩
instance inf74 : Inf Tryd.prog 74 1 24 (.agg [.slice none 0 0].toArray) := ⟨by kernel_rfl⟩
instance stt75 : Stt Tryd.prog 75 [(22, 0, 1)] := ⟨⟨_, Tryd.underlying75, by kernel_rfl⟩, by kernel_rfl⟩
instance inf75 : Inf Tryd.prog 75 1 24 (.agg [.slice none 0 0].toArray) := ⟨by kernel_rfl⟩
instance inf76 : Inf Tryd.prog 76 1 8 (.nilFunc) := ⟨by kernel_rfl⟩
instance inf77 : Inf Tryd.prog 77 1 8 (.nilFunc) := ⟨by kernel_rfl⟩
instance inf78 : Inf Tryd.prog 78 1 8 (.nilFunc) := ⟨by kernel_rfl⟩
instance inf79 : Inf Tryd.prog 79 1 8 (.nilFunc) := ⟨by kernel_rfl⟩
instance inf80 : Inf Tryd.prog 80 1 8 (.nilFunc) := ⟨by kernel_rfl⟩
instance inf81 : Inf Tryd.prog 81 1 8 (.nilFunc) := ⟨by kernel_rfl⟩
instance inf82 : Inf Tryd.prog 82 1 8 (.nilFunc) := ⟨by kernel_rfl⟩
instance inf84 : Inf Tryd.prog 84 1 8 (.nilFunc) := ⟨by kernel_rfl⟩
instance inf85 : Inf Tryd.prog 85 1 8 (.nilFunc) := ⟨by kernel_rfl⟩
instance inf86 : Inf Tryd.prog 86 1 8 (.nilFunc) := ⟨by kernel_rfl⟩
instance inf87 : Inf Tryd.prog 87 1 8 (.nilFunc) := ⟨by kernel_rfl⟩
instance inf88 : Inf Tryd.prog 88 1 8 (.nilFunc) := ⟨by kernel_rfl⟩
instance inf89 : Inf Tryd.prog 89 1 8 (.nilFunc) := ⟨by kernel_rfl⟩
instance inf90 : Inf Tryd.prog 90 1 8 (.nilFunc) := ⟨by kernel_rfl⟩
instance inf91 : Inf Tryd.prog 91 1 8 (.nilFunc) := ⟨by kernel_rfl⟩
instance inf92 : Inf Tryd.prog 92 1 8 (.nilFunc) := ⟨by kernel_rfl⟩
instance inf93 : Inf Tryd.prog 93 4 32 (.agg [.int .i64 0, .int .i64 0, .int .i64 0, .int .i64 0].toArray) := ⟨by kernel_rfl⟩
instance inf94 : Inf Tryd.prog 94 1 8 (.nilFunc) := ⟨by kernel_rfl⟩
instance stt95 : Stt Tryd.prog 95 [(17, 0, 1), (17, 1, 1), (17, 2, 1), (9, 3, 1)] := ⟨⟨_, Tryd.underlying95, by kernel_rfl⟩, by kernel_rfl⟩
instance inf95 : Inf Tryd.prog 95 4 40 (.agg [.pointer none, .pointer none, .pointer none, .string ⟨#[]⟩].toArray) := ⟨by kernel_rfl⟩
instance stt96 : Stt Tryd.prog 96 [(17, 0, 1), (17, 1, 1), (17, 2, 1), (9, 3, 1)] := ⟨⟨_, Tryd.underlying96, by kernel_rfl⟩, by kernel_rfl⟩
instance inf96 : Inf Tryd.prog 96 4 40 (.agg [.pointer none, .pointer none, .pointer none, .string ⟨#[]⟩].toArray) := ⟨by kernel_rfl⟩
instance stt98 : Stt Tryd.prog 98 [(97, 0, 0)] := ⟨⟨_, Tryd.underlying98, by kernel_rfl⟩, by kernel_rfl⟩
instance stt99 : Stt Tryd.prog 99 [(97, 0, 0)] := ⟨⟨_, Tryd.underlying99, by kernel_rfl⟩, by kernel_rfl⟩
instance inf100 : Inf Tryd.prog 100 1 8 (.nilFunc) := ⟨by kernel_rfl⟩
instance ty101 : Ty Tryd.prog 101 (.int .u32) := ⟨by kernel_rfl⟩
instance one101 : One Tryd.prog 101 := ⟨_, ty101.und, (fun F h => by cases h), (fun n e h => by cases h)⟩
instance inf101 : Inf Tryd.prog 101 1 4 (.int .u32 0) := ⟨by kernel_rfl⟩
instance ty102 : Ty Tryd.prog 102 (.int .u8) := ⟨by kernel_rfl⟩
instance one102 : One Tryd.prog 102 := ⟨_, ty102.und, (fun F h => by cases h), (fun n e h => by cases h)⟩
instance inf102 : Inf Tryd.prog 102 1 1 (.int .u8 0) := ⟨by kernel_rfl⟩
instance ty103 : Ty Tryd.prog 103 (.int .u8) := ⟨by kernel_rfl⟩
instance one103 : One Tryd.prog 103 := ⟨_, ty103.und, (fun F h => by cases h), (fun n e h => by cases h)⟩
instance inf103 : Inf Tryd.prog 103 1 1 (.int .u8 0) := ⟨by kernel_rfl⟩
instance inf104 : Inf Tryd.prog 104 1 8 (.nilFunc) := ⟨by kernel_rfl⟩
instance ty105 : Ty Tryd.prog 105 (.pointer 5) := ⟨by kernel_rfl⟩
instance one105 : One Tryd.prog 105 := ⟨_, ty105.und, (fun F h => by cases h), (fun n e h => by cases h)⟩
instance inf105 : Inf Tryd.prog 105 1 8 (.pointer none) := ⟨by kernel_rfl⟩
instance ty106 : Ty Tryd.prog 106 (.int .i32) := ⟨by kernel_rfl⟩
instance one106 : One Tryd.prog 106 := ⟨_, ty106.und, (fun F h => by cases h), (fun n e h => by cases h)⟩
instance inf106 : Inf Tryd.prog 106 1 4 (.int .i32 0) := ⟨by kernel_rfl⟩
instance ty107 : Ty Tryd.prog 107 (.int .i32) := ⟨by kernel_rfl⟩
instance one107 : One Tryd.prog 107 := ⟨_, ty107.und, (fun F h => by cases h), (fun n e h => by cases h)⟩
instance inf107 : Inf Tryd.prog 107 1 4 (.int .i32 0) := ⟨by kernel_rfl⟩
instance stt108 : Stt Tryd.prog 108 [(12, 0, 1), (12, 1, 1), (101, 2, 1), (102, 3, 1), (5, 4, 1), (5, 5, 1), (103, 6, 1), (104, 7, 1), (105, 8, 1), (106, 9, 1), (107, 10, 1)] := ⟨⟨_, Tryd.underlying108, by kernel_rfl⟩, by kernel_rfl⟩
instance inf108 : Inf Tryd.prog 108 11 48 (.agg [.int .u64 0, .int .u64 0, .int .u32 0, .int .u8 0, .int .u8 0, .int .u8 0, .int .u8 0, .nilFunc, .pointer none, .int .i32 0, .int .i32 0].toArray) := ⟨by kernel_rfl⟩
instance stt109 : Stt Tryd.prog 109 [(12, 0, 1), (12, 1, 1), (101, 2, 1), (102, 3, 1), (5, 4, 1), (5, 5, 1), (103, 6, 1), (104, 7, 1), (105, 8, 1), (106, 9, 1), (107, 10, 1)] := ⟨⟨_, Tryd.underlying109, by kernel_rfl⟩, by kernel_rfl⟩
instance inf109 : Inf Tryd.prog 109 11 48 (.agg [.int .u64 0, .int .u64 0, .int .u32 0, .int .u8 0, .int .u8 0, .int .u8 0, .int .u8 0, .nilFunc, .pointer none, .int .i32 0, .int .i32 0].toArray) := ⟨by kernel_rfl⟩
instance inf110 : Inf Tryd.prog 110 1 8 (.pointer none) := ⟨by kernel_rfl⟩
instance fnc2 : Fnc Tryd.prog 2 := ⟨_, Tryd.func2, by kernel_rfl, rfl⟩
instance fnc3 : Fnc Tryd.prog 3 := ⟨_, Tryd.func3, by kernel_rfl, rfl⟩
instance fnc4 : Fnc Tryd.prog 4 := ⟨_, Tryd.func4, by kernel_rfl, rfl⟩
instance fnc5 : Fnc Tryd.prog 5 := ⟨_, Tryd.func5, by kernel_rfl, rfl⟩
instance fnc6 : Fnc Tryd.prog 6 := ⟨_, Tryd.func6, by kernel_rfl, rfl⟩
instance fnc7 : Fnc Tryd.prog 7 := ⟨_, Tryd.func7, by kernel_rfl, rfl⟩
instance fnc8 : Fnc Tryd.prog 8 := ⟨_, Tryd.func8, by kernel_rfl, rfl⟩
instance fnc9 : Fnc Tryd.prog 9 := ⟨_, Tryd.func9, by kernel_rfl, rfl⟩
instance fnc10 : Fnc Tryd.prog 10 := ⟨_, Tryd.func10, by kernel_rfl, rfl⟩
instance fnc11 : Fnc Tryd.prog 11 := ⟨_, Tryd.func11, by kernel_rfl, rfl⟩
instance fnc12 : Fnc Tryd.prog 12 := ⟨_, Tryd.func12, by kernel_rfl, rfl⟩
instance fnc13 : Fnc Tryd.prog 13 := ⟨_, Tryd.func13, by kernel_rfl, rfl⟩
instance fnc14 : Fnc Tryd.prog 14 := ⟨_, Tryd.func14, by kernel_rfl, rfl⟩
instance fnc15 : Fnc Tryd.prog 15 := ⟨_, Tryd.func15, by kernel_rfl, rfl⟩
instance fnc16 : Fnc Tryd.prog 16 := ⟨_, Tryd.func16, by kernel_rfl, rfl⟩
instance fnc17 : Fnc Tryd.prog 17 := ⟨_, Tryd.func17, by kernel_rfl, rfl⟩
instance fnc18 : Fnc Tryd.prog 18 := ⟨_, Tryd.func18, by kernel_rfl, rfl⟩
instance fnc19 : Fnc Tryd.prog 19 := ⟨_, Tryd.func19, by kernel_rfl, rfl⟩
instance fnc20 : Fnc Tryd.prog 20 := ⟨_, Tryd.func20, by kernel_rfl, rfl⟩
instance fnc21 : Fnc Tryd.prog 21 := ⟨_, Tryd.func21, by kernel_rfl, rfl⟩
instance fnc22 : Fnc Tryd.prog 22 := ⟨_, Tryd.func22, by kernel_rfl, rfl⟩
instance fnc23 : Fnc Tryd.prog 23 := ⟨_, Tryd.func23, by kernel_rfl, rfl⟩
instance fnc24 : Fnc Tryd.prog 24 := ⟨_, Tryd.func24, by kernel_rfl, rfl⟩
instance fnc25 : Fnc Tryd.prog 25 := ⟨_, Tryd.func25, by kernel_rfl, rfl⟩
instance fnc26 : Fnc Tryd.prog 26 := ⟨_, Tryd.func26, by kernel_rfl, rfl⟩
instance fnc27 : Fnc Tryd.prog 27 := ⟨_, Tryd.func27, by kernel_rfl, rfl⟩
instance fnc28 : Fnc Tryd.prog 28 := ⟨_, Tryd.func28, by kernel_rfl, rfl⟩
instance fnc29 : Fnc Tryd.prog 29 := ⟨_, Tryd.func29, by kernel_rfl, rfl⟩
instance fnc30 : Fnc Tryd.prog 30 := ⟨_, Tryd.func30, by kernel_rfl, rfl⟩
instance fnc31 : Fnc Tryd.prog 31 := ⟨_, Tryd.func31, by kernel_rfl, rfl⟩
instance fnc32 : Fnc Tryd.prog 32 := ⟨_, Tryd.func32, by kernel_rfl, rfl⟩
instance fnc33 : Fnc Tryd.prog 33 := ⟨_, Tryd.func33, by kernel_rfl, rfl⟩
instance fnc34 : Fnc Tryd.prog 34 := ⟨_, Tryd.func34, by kernel_rfl, rfl⟩
instance fnc35 : Fnc Tryd.prog 35 := ⟨_, Tryd.func35, by kernel_rfl, rfl⟩
instance fnc36 : Fnc Tryd.prog 36 := ⟨_, Tryd.func36, by kernel_rfl, rfl⟩
instance fnc37 : Fnc Tryd.prog 37 := ⟨_, Tryd.func37, by kernel_rfl, rfl⟩
instance fnc38 : Fnc Tryd.prog 38 := ⟨_, Tryd.func38, by kernel_rfl, rfl⟩
instance fnc39 : Fnc Tryd.prog 39 := ⟨_, Tryd.func39, by kernel_rfl, rfl⟩
instance fnc40 : Fnc Tryd.prog 40 := ⟨_, Tryd.func40, by kernel_rfl, rfl⟩
instance fnc41 : Fnc Tryd.prog 41 := ⟨_, Tryd.func41, by kernel_rfl, rfl⟩
instance fnc42 : Fnc Tryd.prog 42 := ⟨_, Tryd.func42, by kernel_rfl, rfl⟩
instance fnc43 : Fnc Tryd.prog 43 := ⟨_, Tryd.func43, by kernel_rfl, rfl⟩
instance fnc44 : Fnc Tryd.prog 44 := ⟨_, Tryd.func44, by kernel_rfl, rfl⟩
instance fnc45 : Fnc Tryd.prog 45 := ⟨_, Tryd.func45, by kernel_rfl, rfl⟩
instance fnc46 : Fnc Tryd.prog 46 := ⟨_, Tryd.func46, by kernel_rfl, rfl⟩
instance fnc47 : Fnc Tryd.prog 47 := ⟨_, Tryd.func47, by kernel_rfl, rfl⟩
instance fnc48 : Fnc Tryd.prog 48 := ⟨_, Tryd.func48, by kernel_rfl, rfl⟩
instance fnc49 : Fnc Tryd.prog 49 := ⟨_, Tryd.func49, by kernel_rfl, rfl⟩
instance fnc50 : Fnc Tryd.prog 50 := ⟨_, Tryd.func50, by kernel_rfl, rfl⟩
instance fnc51 : Fnc Tryd.prog 51 := ⟨_, Tryd.func51, by kernel_rfl, rfl⟩
instance fnc52 : Fnc Tryd.prog 52 := ⟨_, Tryd.func52, by kernel_rfl, rfl⟩
instance fnc53 : Fnc Tryd.prog 53 := ⟨_, Tryd.func53, by kernel_rfl, rfl⟩
instance fnc54 : Fnc Tryd.prog 54 := ⟨_, Tryd.func54, by kernel_rfl, rfl⟩
instance fnc55 : Fnc Tryd.prog 55 := ⟨_, Tryd.func55, by kernel_rfl, rfl⟩
instance fnc56 : Fnc Tryd.prog 56 := ⟨_, Tryd.func56, by kernel_rfl, rfl⟩
instance fnc57 : Fnc Tryd.prog 57 := ⟨_, Tryd.func57, by kernel_rfl, rfl⟩
instance fnc58 : Fnc Tryd.prog 58 := ⟨_, Tryd.func58, by kernel_rfl, rfl⟩
instance fnc59 : Fnc Tryd.prog 59 := ⟨_, Tryd.func59, by kernel_rfl, rfl⟩
instance fnc60 : Fnc Tryd.prog 60 := ⟨_, Tryd.func60, by kernel_rfl, rfl⟩
instance fnc61 : Fnc Tryd.prog 61 := ⟨_, Tryd.func61, by kernel_rfl, rfl⟩
instance fnc62 : Fnc Tryd.prog 62 := ⟨_, Tryd.func62, by kernel_rfl, rfl⟩
instance fnc63 : Fnc Tryd.prog 63 := ⟨_, Tryd.func63, by kernel_rfl, rfl⟩
instance fnc64 : Fnc Tryd.prog 64 := ⟨_, Tryd.func64, by kernel_rfl, rfl⟩
instance fnc65 : Fnc Tryd.prog 65 := ⟨_, Tryd.func65, by kernel_rfl, rfl⟩
instance fnc66 : Fnc Tryd.prog 66 := ⟨_, Tryd.func66, by kernel_rfl, rfl⟩
instance fnc67 : Fnc Tryd.prog 67 := ⟨_, Tryd.func67, by kernel_rfl, rfl⟩
instance fnc68 : Fnc Tryd.prog 68 := ⟨_, Tryd.func68, by kernel_rfl, rfl⟩
instance fnc69 : Fnc Tryd.prog 69 := ⟨_, Tryd.func69, by kernel_rfl, rfl⟩
instance fnc70 : Fnc Tryd.prog 70 := ⟨_, Tryd.func70, by kernel_rfl, rfl⟩
instance fnc92 : Fnc Tryd.prog 92 := ⟨_, Tryd.func92, by kernel_rfl, rfl⟩
instance cmp71 : IsCmp Tryd.prog 71 := ⟨_, Tryd.func71, by kernel_rfl, rfl, by kernel_rfl, by kernel_rfl⟩
theorem mixed : Tryd.prog.follows .mixedOrders = true := by kernel_rfl
end Go.Proofs.YtkdmcbacofafpaaDoor.X
