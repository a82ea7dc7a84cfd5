/- The types and functions of the program, as instances. -/
import Derived.Test.YtbcflfkajkmkdaaDoorChecked
import Derived.Test.YtbcflfkajkmkdaaDoorXlib
namespace Go.Proofs.YtbcflfkajkmkdaaDoor.X
open Go Go.Proofs
instance inf1 : Inf Tryd.prog 1 1 8 (.nilFunc) := ⟨by kernel_rfl⟩
instance ty2 : Ty Tryd.prog 2 (.int .i64) := ⟨by kernel_rfl⟩
instance one2 : One Tryd.prog 2 := ⟨_, ty2.und, (fun F h => by cases h), (fun n e h => by cases h)⟩
instance inf2 : Inf Tryd.prog 2 1 8 (.int .i64 0) := ⟨by kernel_rfl⟩
instance ty3 : Ty Tryd.prog 3 (.int .i64) := ⟨by kernel_rfl⟩
instance one3 : One Tryd.prog 3 := ⟨_, ty3.und, (fun F h => by cases h), (fun n e h => by cases h)⟩
instance inf3 : Inf Tryd.prog 3 1 8 (.int .i64 0) := ⟨by kernel_rfl⟩
instance ty4 : Ty Tryd.prog 4 .bool := ⟨by kernel_rfl⟩
instance one4 : One Tryd.prog 4 := ⟨_, ty4.und, (fun F h => by cases h), (fun n e h => by cases h)⟩
instance inf4 : Inf Tryd.prog 4 1 1 (.bool false) := ⟨by kernel_rfl⟩
instance ty5 : Ty Tryd.prog 5 (.int .u8) := ⟨by kernel_rfl⟩
instance one5 : One Tryd.prog 5 := ⟨_, ty5.und, (fun F h => by cases h), (fun n e h => by cases h)⟩
instance inf5 : Inf Tryd.prog 5 1 1 (.int .u8 0) := ⟨by kernel_rfl⟩
instance ty6 : Ty Tryd.prog 6 (.int .u8) := ⟨by kernel_rfl⟩
instance one6 : One Tryd.prog 6 := ⟨_, ty6.und, (fun F h => by cases h), (fun n e h => by cases h)⟩
instance inf6 : Inf Tryd.prog 6 1 1 (.int .u8 0) := ⟨by kernel_rfl⟩
instance stt7 : Stt Tryd.prog 7 [(2, 0, 1), (3, 1, 1), (4, 2, 1), (6, 3, 1)] := ⟨⟨_, Tryd.underlying7, by kernel_rfl⟩, by kernel_rfl⟩
instance inf7 : Inf Tryd.prog 7 4 24 (.agg [.int .i64 0, .int .i64 0, .bool false, .int .u8 0].toArray) := ⟨by kernel_rfl⟩
instance stt8 : Stt Tryd.prog 8 [(2, 0, 1), (3, 1, 1), (4, 2, 1), (6, 3, 1)] := ⟨⟨_, Tryd.underlying8, by kernel_rfl⟩, by kernel_rfl⟩
instance inf8 : Inf Tryd.prog 8 4 24 (.agg [.int .i64 0, .int .i64 0, .bool false, .int .u8 0].toArray) := ⟨by kernel_rfl⟩
instance ty9 : Ty Tryd.prog 9 .string := ⟨by kernel_rfl⟩
instance one9 : One Tryd.prog 9 := ⟨_, ty9.und, (fun F h => by cases h), (fun n e h => by cases h)⟩
instance inf9 : Inf Tryd.prog 9 1 16 (.string ⟨#[]⟩) := ⟨by kernel_rfl⟩
instance ty10 : Ty Tryd.prog 10 .string := ⟨by kernel_rfl⟩
instance one10 : One Tryd.prog 10 := ⟨_, ty10.und, (fun F h => by cases h), (fun n e h => by cases h)⟩
instance inf10 : Inf Tryd.prog 10 1 16 (.string ⟨#[]⟩) := ⟨by kernel_rfl⟩
instance ty11 : Ty Tryd.prog 11 .string := ⟨by kernel_rfl⟩
instance one11 : One Tryd.prog 11 := ⟨_, ty11.und, (fun F h => by cases h), (fun n e h => by cases h)⟩
instance inf11 : Inf Tryd.prog 11 1 16 (.string ⟨#[]⟩) := ⟨by kernel_rfl⟩
instance ty12 : Ty Tryd.prog 12 (.int .u64) := ⟨by kernel_rfl⟩
instance one12 : One Tryd.prog 12 := ⟨_, ty12.und, (fun F h => by cases h), (fun n e h => by cases h)⟩
instance inf12 : Inf Tryd.prog 12 1 8 (.int .u64 0) := ⟨by kernel_rfl⟩
instance stt13 : Stt Tryd.prog 13 [(9, 0, 1), (12, 1, 1)] := ⟨⟨_, Tryd.underlying13, by kernel_rfl⟩, by kernel_rfl⟩
instance inf13 : Inf Tryd.prog 13 2 24 (.agg [.string ⟨#[]⟩, .int .u64 0].toArray) := ⟨by kernel_rfl⟩
instance stt14 : Stt Tryd.prog 14 [(9, 0, 1), (12, 1, 1)] := ⟨⟨_, Tryd.underlying14, by kernel_rfl⟩, by kernel_rfl⟩
instance inf14 : Inf Tryd.prog 14 2 24 (.agg [.string ⟨#[]⟩, .int .u64 0].toArray) := ⟨by kernel_rfl⟩
instance ty15 : Ty Tryd.prog 15 (.pointer 129) := ⟨by kernel_rfl⟩
instance one15 : One Tryd.prog 15 := ⟨_, ty15.und, (fun F h => by cases h), (fun n e h => by cases h)⟩
instance inf15 : Inf Tryd.prog 15 1 8 (.pointer none) := ⟨by kernel_rfl⟩
instance ty16 : Ty Tryd.prog 16 (.pointer 132) := ⟨by kernel_rfl⟩
instance one16 : One Tryd.prog 16 := ⟨_, ty16.und, (fun F h => by cases h), (fun n e h => by cases h)⟩
instance inf16 : Inf Tryd.prog 16 1 8 (.pointer none) := ⟨by kernel_rfl⟩
instance ty17 : Ty Tryd.prog 17 (.pointer 140) := ⟨by kernel_rfl⟩
instance one17 : One Tryd.prog 17 := ⟨_, ty17.und, (fun F h => by cases h), (fun n e h => by cases h)⟩
instance inf17 : Inf Tryd.prog 17 1 8 (.pointer none) := ⟨by kernel_rfl⟩
instance stt18 : Stt Tryd.prog 18 [(17, 0, 1)] := ⟨⟨_, Tryd.underlying18, by kernel_rfl⟩, by kernel_rfl⟩
instance inf18 : Inf Tryd.prog 18 1 8 (.agg [.pointer none].toArray) := ⟨by kernel_rfl⟩
instance stt19 : Stt Tryd.prog 19 [(17, 0, 1)] := ⟨⟨_, Tryd.underlying19, by kernel_rfl⟩, by kernel_rfl⟩
instance inf19 : Inf Tryd.prog 19 1 8 (.agg [.pointer none].toArray) := ⟨by kernel_rfl⟩
instance inf20 : Inf Tryd.prog 20 1 16 (.nilIface) := ⟨by kernel_rfl⟩
instance ty21 : Ty Tryd.prog 21 (.int .i32) := ⟨by kernel_rfl⟩
instance one21 : One Tryd.prog 21 := ⟨_, ty21.und, (fun F h => by cases h), (fun n e h => by cases h)⟩
instance inf21 : Inf Tryd.prog 21 1 4 (.int .i32 0) := ⟨by kernel_rfl⟩
instance ty22 : Ty Tryd.prog 22 (.slice 5) := ⟨by kernel_rfl⟩
instance one22 : One Tryd.prog 22 := ⟨_, ty22.und, (fun F h => by cases h), (fun n e h => by cases h)⟩
instance inf22 : Inf Tryd.prog 22 1 24 (.slice none 0 0) := ⟨by kernel_rfl⟩
instance ty23 : Ty Tryd.prog 23 (.int .u64) := ⟨by kernel_rfl⟩
instance one23 : One Tryd.prog 23 := ⟨_, ty23.und, (fun F h => by cases h), (fun n e h => by cases h)⟩
instance inf23 : Inf Tryd.prog 23 1 8 (.int .u64 0) := ⟨by kernel_rfl⟩
instance ty24 : Ty Tryd.prog 24 (.slice 40) := ⟨by kernel_rfl⟩
instance one24 : One Tryd.prog 24 := ⟨_, ty24.und, (fun F h => by cases h), (fun n e h => by cases h)⟩
instance inf24 : Inf Tryd.prog 24 1 24 (.slice none 0 0) := ⟨by kernel_rfl⟩
instance stt25 : Stt Tryd.prog 25 [(3, 0, 1), (3, 1, 1), (3, 2, 1), (3, 3, 1), (3, 4, 1), (3, 5, 1), (3, 6, 1), (22, 7, 1), (22, 8, 1), (22, 9, 1), (23, 10, 1), (24, 11, 1)] := ⟨⟨_, Tryd.underlying25, by kernel_rfl⟩, by kernel_rfl⟩
instance inf25 : Inf Tryd.prog 25 12 160 (.agg [.int .i64 0, .int .i64 0, .int .i64 0, .int .i64 0, .int .i64 0, .int .i64 0, .int .i64 0, .slice none 0 0, .slice none 0 0, .slice none 0 0, .int .u64 0, .slice none 0 0].toArray) := ⟨by kernel_rfl⟩
instance stt26 : Stt Tryd.prog 26 [(3, 0, 1), (3, 1, 1), (3, 2, 1), (3, 3, 1), (3, 4, 1), (3, 5, 1), (3, 6, 1), (22, 7, 1), (22, 8, 1), (22, 9, 1), (23, 10, 1), (24, 11, 1)] := ⟨⟨_, Tryd.underlying26, by kernel_rfl⟩, by kernel_rfl⟩
instance inf26 : Inf Tryd.prog 26 12 160 (.agg [.int .i64 0, .int .i64 0, .int .i64 0, .int .i64 0, .int .i64 0, .int .i64 0, .int .i64 0, .slice none 0 0, .slice none 0 0, .slice none 0 0, .int .u64 0, .slice none 0 0].toArray) := ⟨by kernel_rfl⟩
instance inf27 : Inf Tryd.prog 27 1 8 (.nilFunc) := ⟨by kernel_rfl⟩
instance ty28 : Ty Tryd.prog 28 (.slice 26) := ⟨by kernel_rfl⟩
instance one28 : One Tryd.prog 28 := ⟨_, ty28.und, (fun F h => by cases h), (fun n e h => by cases h)⟩
instance inf28 : Inf Tryd.prog 28 1 24 (.slice none 0 0) := ⟨by kernel_rfl⟩
instance inf29 : Inf Tryd.prog 29 1 8 (.nilFunc) := ⟨by kernel_rfl⟩
instance inf30 : Inf Tryd.prog 30 1 8 (.nilFunc) := ⟨by kernel_rfl⟩
instance inf31 : Inf Tryd.prog 31 1 8 (.nilFunc) := ⟨by kernel_rfl⟩
instance ty32 : Ty Tryd.prog 32 (.int .i64) := ⟨by kernel_rfl⟩
instance one32 : One Tryd.prog 32 := ⟨_, ty32.und, (fun F h => by cases h), (fun n e h => by cases h)⟩
instance inf32 : Inf Tryd.prog 32 1 8 (.int .i64 0) := ⟨by kernel_rfl⟩
instance inf34 : Inf Tryd.prog 34 1 8 (.nilFunc) := ⟨by kernel_rfl⟩
instance inf35 : Inf Tryd.prog 35 1 8 (.nilFunc) := ⟨by kernel_rfl⟩
instance inf36 : Inf Tryd.prog 36 1 8 (.nilFunc) := ⟨by kernel_rfl⟩
instance ty37 : Ty Tryd.prog 37 (.slice 3) := ⟨by kernel_rfl⟩
instance one37 : One Tryd.prog 37 := ⟨_, ty37.und, (fun F h => by cases h), (fun n e h => by cases h)⟩
instance inf37 : Inf Tryd.prog 37 1 24 (.slice none 0 0) := ⟨by kernel_rfl⟩
instance ty38 : Ty Tryd.prog 38 (.slice 23) := ⟨by kernel_rfl⟩
instance one38 : One Tryd.prog 38 := ⟨_, ty38.und, (fun F h => by cases h), (fun n e h => by cases h)⟩
instance inf38 : Inf Tryd.prog 38 1 24 (.slice none 0 0) := ⟨by kernel_rfl⟩
instance stt39 : Stt Tryd.prog 39 [(22, 0, 1), (23, 1, 1)] := ⟨⟨_, Tryd.underlying39, by kernel_rfl⟩, by kernel_rfl⟩
instance inf39 : Inf Tryd.prog 39 2 32 (.agg [.slice none 0 0, .int .u64 0].toArray) := ⟨by kernel_rfl⟩
instance stt40 : Stt Tryd.prog 40 [(22, 0, 1), (23, 1, 1)] := ⟨⟨_, Tryd.underlying40, by kernel_rfl⟩, by kernel_rfl⟩
instance inf40 : Inf Tryd.prog 40 2 32 (.agg [.slice none 0 0, .int .u64 0].toArray) := ⟨by kernel_rfl⟩
instance inf41 : Inf Tryd.prog 41 1 8 (.nilFunc) := ⟨by kernel_rfl⟩
instance inf42 : Inf Tryd.prog 42 1 8 (.nilFunc) := ⟨by kernel_rfl⟩
instance inf43 : Inf Tryd.prog 43 1 8 (.nilFunc) := ⟨by kernel_rfl⟩
instance inf44 : Inf Tryd.prog 44 1 8 (.nilFunc) := ⟨by kernel_rfl⟩
instance inf45 : Inf Tryd.prog 45 1 8 (.nilFunc) := ⟨by kernel_rfl⟩
instance ty46 : Ty Tryd.prog 46 (.int .u64) := ⟨by kernel_rfl⟩
instance one46 : One Tryd.prog 46 := ⟨_, ty46.und, (fun F h => by cases h), (fun n e h => by cases h)⟩
instance inf46 : Inf Tryd.prog 46 1 8 (.int .u64 0) := ⟨by kernel_rfl⟩
instance ty47 : Ty Tryd.prog 47 (.pointer 49) := ⟨by kernel_rfl⟩
instance one47 : One Tryd.prog 47 := ⟨_, ty47.und, (fun F h => by cases h), (fun n e h => by cases h)⟩
instance inf47 : Inf Tryd.prog 47 1 8 (.pointer none) := ⟨by kernel_rfl⟩
instance stt48 : Stt Tryd.prog 48 [(47, 0, 1), (22, 1, 1)] := ⟨⟨_, Tryd.underlying48, by kernel_rfl⟩, by kernel_rfl⟩
instance inf48 : Inf Tryd.prog 48 2 32 (.agg [.pointer none, .slice none 0 0].toArray) := ⟨by kernel_rfl⟩
instance stt49 : Stt Tryd.prog 49 [(47, 0, 1), (22, 1, 1)] := ⟨⟨_, Tryd.underlying49, by kernel_rfl⟩, by kernel_rfl⟩
instance inf49 : Inf Tryd.prog 49 2 32 (.agg [.pointer none, .slice none 0 0].toArray) := ⟨by kernel_rfl⟩
instance inf50 : Inf Tryd.prog 50 1 16 (.nilIface) := ⟨by kernel_rfl⟩
instance inf51 : Inf Tryd.prog 51 1 16 (.nilIface) := ⟨by kernel_rfl⟩
instance inf53 : Inf Tryd.prog 53 1 8 (.nilFunc) := ⟨by kernel_rfl⟩
instance inf54 : Inf Tryd.prog 54 23 368 (.agg [.string ⟨#[]⟩, .string ⟨#[]⟩, .string ⟨#[]⟩, .string ⟨#[]⟩, .string ⟨#[]⟩, .string ⟨#[]⟩, .string ⟨#[]⟩, .string ⟨#[]⟩, .string ⟨#[]⟩, .string ⟨#[]⟩, .string ⟨#[]⟩, .string ⟨#[]⟩, .string ⟨#[]⟩, .string ⟨#[]⟩, .string ⟨#[]⟩, .string ⟨#[]⟩, .string ⟨#[]⟩, .string ⟨#[]⟩, .string ⟨#[]⟩, .string ⟨#[]⟩, .string ⟨#[]⟩, .string ⟨#[]⟩, .string ⟨#[]⟩].toArray) := ⟨by kernel_rfl⟩
instance inf55 : Inf Tryd.prog 55 1 8 (.nilFunc) := ⟨by kernel_rfl⟩
instance ty56 : Ty Tryd.prog 56 (.slice 9) := ⟨by kernel_rfl⟩
instance one56 : One Tryd.prog 56 := ⟨_, ty56.und, (fun F h => by cases h), (fun n e h => by cases h)⟩
instance inf56 : Inf Tryd.prog 56 1 24 (.slice none 0 0) := ⟨by kernel_rfl⟩
instance inf57 : Inf Tryd.prog 57 1 8 (.nilFunc) := ⟨by kernel_rfl⟩
instance ty58 : Ty Tryd.prog 58 (.slice 22) := ⟨by kernel_rfl⟩
instance one58 : One Tryd.prog 58 := ⟨_, ty58.und, (fun F h => by cases h), (fun n e h => by cases h)⟩
instance inf58 : Inf Tryd.prog 58 1 24 (.slice none 0 0) := ⟨by kernel_rfl⟩
instance inf59 : Inf Tryd.prog 59 1 8 (.nilFunc) := ⟨by kernel_rfl⟩
instance inf60 : Inf Tryd.prog 60 1 8 (.nilFunc) := ⟨by kernel_rfl⟩
instance inf61 : Inf Tryd.prog 61 1 8 (.nilFunc) := ⟨by kernel_rfl⟩
instance inf62 : Inf Tryd.prog 62 1 8 (.nilFunc) := ⟨by kernel_rfl⟩
instance inf63 : Inf Tryd.prog 63 1 8 (.nilFunc) := ⟨by kernel_rfl⟩
instance inf65 : Inf Tryd.prog 65 1 8 (.nilFunc) := ⟨by kernel_rfl⟩
instance inf66 : Inf Tryd.prog 66 1 8 (.nilFunc) := ⟨by kernel_rfl⟩
instance ty67 : Ty Tryd.prog 67 (.pointer 26) := ⟨by kernel_rfl⟩
instance one67 : One Tryd.prog 67 := ⟨_, ty67.und, (fun F h => by cases h), (fun n e h => by cases h)⟩
instance inf67 : Inf Tryd.prog 67 1 8 (.pointer none) := ⟨by kernel_rfl⟩
instance inf68 : Inf Tryd.prog 68 1 8 (.nilFunc) := ⟨by kernel_rfl⟩
instance inf69 : Inf Tryd.prog 69 1 8 (.nilFunc) := ⟨by kernel_rfl⟩
instance inf70 : Inf Tryd.prog 70 1 8 (.nilFunc) := ⟨by kernel_rfl⟩
instance inf71 : Inf Tryd.prog 71 1 8 (.nilFunc) := ⟨by kernel_rfl⟩
instance inf72 : Inf Tryd.prog 72 1 8 (.nilFunc) := ⟨by kernel_rfl⟩
instance inf73 : Inf Tryd.prog 73 1 8 (.nilFunc) := ⟨by kernel_rfl⟩
instance inf74 : Inf Tryd.prog 74 1 8 (.nilFunc) := ⟨by kernel_rfl⟩
instance inf75 : Inf Tryd.prog 75 1 8 (.nilFunc) := ⟨by kernel_rfl⟩
instance ty76 : Ty Tryd.prog 76 (.pointer 5) := ⟨by kernel_rfl⟩
instance one76 : One Tryd.prog 76 := ⟨_, ty76.und, (fun F h => by cases h), (fun n e h => by cases h)⟩
instance inf76 : Inf Tryd.prog 76 1 8 (.pointer none) := ⟨by kernel_rfl⟩
instance inf77 : Inf Tryd.prog 77 1 8 (.nilFunc) := ⟨by kernel_rfl⟩
instance inf78 : Inf Tryd.prog 78 1 8 (.nilFunc) := ⟨by kernel_rfl⟩
instance inf79 : Inf Tryd.prog 79 1 8 (.nilFunc) := ⟨by kernel_rfl⟩
instance inf80 : Inf Tryd.prog 80 1 8 (.nilFunc) := ⟨by kernel_rfl⟩
instance inf81 : Inf Tryd.prog 81 1 8 (.pointer none) := ⟨by kernel_rfl⟩
instance inf82 : Inf Tryd.prog 82 1 8 (.nilFunc) := ⟨by kernel_rfl⟩
instance inf83 : Inf Tryd.prog 83 1 8 (.nilFunc) := ⟨by kernel_rfl⟩
instance inf84 : Inf Tryd.prog 84 24 24 (.agg [.int .u8 0, .int .u8 0, .int .u8 0, .int .u8 0, .int .u8 0, .int .u8 0, .int .u8 0, .int .u8 0, .int .u8 0, .int .u8 0, .int .u8 0, .int .u8 0, .int .u8 0, .int .u8 0, .int .u8 0, .int .u8 0, .int .u8 0, .int .u8 0, .int .u8 0, .int .u8 0, .int .u8 0, .int .u8 0, .int .u8 0, .int .u8 0].toArray) := ⟨by kernel_rfl⟩
instance inf85 : Inf Tryd.prog 85 1 8 (.nilFunc) := ⟨by kernel_rfl⟩
instance inf86 : Inf Tryd.prog 86 1 8 (.nilFunc) := ⟨by kernel_rfl⟩
instance inf88 : Inf Tryd.prog 88 1 8 (.nilFunc) := ⟨by kernel_rfl⟩
instance inf89 : Inf Tryd.prog 89 1 8 (.nilFunc) := ⟨by kernel_rfl⟩
instance inf90 : Inf Tryd.prog 90 1 8 (.nilFunc) := ⟨by kernel_rfl⟩
instance inf91 : Inf Tryd.prog 91 1 8 (.nilFunc) := ⟨by kernel_rfl⟩
instance inf93 : Inf Tryd.prog 93 1 8 (.nilFunc) := ⟨by kernel_rfl⟩
instance inf94 : Inf Tryd.prog 94 1 8 (.nilFunc) := ⟨by kernel_rfl⟩
instance inf95 : Inf Tryd.prog 95 1 8 (.nilFunc) := ⟨by kernel_rfl⟩
instance inf96 : Inf Tryd.prog 96 1 8 (.nilFunc) := ⟨by kernel_rfl⟩
instance inf97 : Inf Tryd.prog 97 20 160 (.agg [.int .u64 0, .int .u64 0, .int .u64 0, .int .u64 0, .int .u64 0, .int .u64 0, .int .u64 0, .int .u64 0, .int .u64 0, .int .u64 0, .int .u64 0, .int .u64 0, .int .u64 0, .int .u64 0, .int .u64 0, .int .u64 0, .int .u64 0, .int .u64 0, .int .u64 0, .int .u64 0].toArray) := ⟨by kernel_rfl⟩
instance ty98 : Ty Tryd.prog 98 (.int .u32) := ⟨by kernel_rfl⟩
instance one98 : One Tryd.prog 98 := ⟨_, ty98.und, (fun F h => by cases h), (fun n e h => by cases h)⟩
instance inf98 : Inf Tryd.prog 98 1 4 (.int .u32 0) := ⟨by kernel_rfl⟩
instance inf100 : Inf Tryd.prog 100 1 8 (.nilFunc) := ⟨by kernel_rfl⟩
instance inf101 : Inf Tryd.prog 101 1 8 (.nilFunc) := ⟨by kernel_rfl⟩
instance inf103 : Inf Tryd.prog 103 1 8 (.nilFunc) := ⟨by kernel_rfl⟩
instance inf104 : Inf Tryd.prog 104 1 8 (.nilFunc) := ⟨by kernel_rfl⟩
instance inf105 : Inf Tryd.prog 105 1 8 (.nilFunc) := ⟨by kernel_rfl⟩
instance inf107 : Inf Tryd.prog 107 1 8 (.nilFunc) := ⟨by kernel_rfl⟩
instance ty108 : Ty Tryd.prog 108 (.int .i64) := ⟨by kernel_rfl⟩
instance one108 : One Tryd.prog 108 := ⟨_, ty108.und, (fun F h => by cases h), (fun n e h => by cases h)⟩
instance inf108 : Inf Tryd.prog 108 1 8 (.int .i64 0) := ⟨by kernel_rfl⟩
instance inf110 : Inf Tryd.prog 110 1 8 (.nilFunc) := ⟨by kernel_rfl⟩
instance ty111 : Ty Tryd.prog 111 (.pointer 123) := ⟨by kernel_rfl⟩
instance one111 : One Tryd.prog 111 := ⟨_, ty111.und, (fun F h => by cases h), (fun n e h => by cases h)⟩
instance inf111 : Inf Tryd.prog 111 1 8 (.pointer none) := ⟨by kernel_rfl⟩
instance inf112 : Inf Tryd.prog 112 1 8 (.nilFunc) := ⟨by kernel_rfl⟩
instance inf113 : Inf Tryd.prog 113 1 8 (.nilFunc) := ⟨by kernel_rfl⟩
instance inf114 : Inf Tryd.prog 114 1 8 (.nilFunc) := ⟨by kernel_rfl⟩
instance inf115 : Inf Tryd.prog 115 32 32 (.agg [.int .u8 0, .int .u8 0, .int .u8 0, .int .u8 0, .int .u8 0, .int .u8 0, .int .u8 0, .int .u8 0, .int .u8 0, .int .u8 0, .int .u8 0, .int .u8 0, .int .u8 0, .int .u8 0, .int .u8 0, .int .u8 0, .int .u8 0, .int .u8 0, .int .u8 0, .int .u8 0, .int .u8 0, .int .u8 0, .int .u8 0, .int .u8 0, .int .u8 0, .int .u8 0, .int .u8 0, .int .u8 0, .int .u8 0, .int .u8 0, .int .u8 0, .int .u8 0].toArray) := ⟨by kernel_rfl⟩
instance stt118 : Stt Tryd.prog 118 [(5, 0, 1), (5, 1, 1)] := ⟨⟨_, Tryd.underlying118, by kernel_rfl⟩, by kernel_rfl⟩
instance inf118 : Inf Tryd.prog 118 2 2 (.agg [.int .u8 0, .int .u8 0].toArray) := ⟨by kernel_rfl⟩
instance stt119 : Stt Tryd.prog 119 [(5, 0, 1), (5, 1, 1)] := ⟨⟨_, Tryd.underlying119, by kernel_rfl⟩, by kernel_rfl⟩
instance inf119 : Inf Tryd.prog 119 2 2 (.agg [.int .u8 0, .int .u8 0].toArray) := ⟨by kernel_rfl⟩
instance inf120 : Inf Tryd.prog 120 32 32 (.agg [.int .u8 0, .int .u8 0, .int .u8 0, .int .u8 0, .int .u8 0, .int .u8 0, .int .u8 0, .int .u8 0, .int .u8 0, .int .u8 0, .int .u8 0, .int .u8 0, .int .u8 0, .int .u8 0, .int .u8 0, .int .u8 0, .int .u8 0, .int .u8 0, .int .u8 0, .int .u8 0, .int .u8 0, .int .u8 0, .int .u8 0, .int .u8 0, .int .u8 0, .int .u8 0, .int .u8 0, .int .u8 0, .int .u8 0, .int .u8 0, .int .u8 0, .int .u8 0].toArray) := ⟨by kernel_rfl⟩
instance inf121 : Inf Tryd.prog 121 1 8 (.nilFunc) := ⟨by kernel_rfl⟩
instance stt122 : Stt Tryd.prog 122 [(9, 0, 1), (9, 1, 1), (51, 2, 1)] := ⟨⟨_, Tryd.underlying122, by kernel_rfl⟩, by kernel_rfl⟩
instance inf122 : Inf Tryd.prog 122 3 48 (.agg [.string ⟨#[]⟩, .string ⟨#[]⟩, .nilIface].toArray) := ⟨by kernel_rfl⟩
instance stt123 : Stt Tryd.prog 123 [(9, 0, 1), (9, 1, 1), (51, 2, 1)] := ⟨⟨_, Tryd.underlying123, by kernel_rfl⟩, by kernel_rfl⟩
instance inf123 : Inf Tryd.prog 123 3 48 (.agg [.string ⟨#[]⟩, .string ⟨#[]⟩, .nilIface].toArray) := ⟨by kernel_rfl⟩
instance inf124 : Inf Tryd.prog 124 1 8 (.nilFunc) := ⟨by kernel_rfl⟩
instance ty125 : Ty Tryd.prog 125 (.pointer 127) := ⟨by kernel_rfl⟩
instance one125 : One Tryd.prog 125 := ⟨_, ty125.und, (fun F h => by cases h), (fun n e h => by cases h)⟩
instance inf125 : Inf Tryd.prog 125 1 8 (.pointer none) := ⟨by kernel_rfl⟩
instance stt126 : Stt Tryd.prog 126 [(9, 0, 1)] := ⟨⟨_, Tryd.underlying126, by kernel_rfl⟩, by kernel_rfl⟩
instance inf126 : Inf Tryd.prog 126 1 16 (.agg [.string ⟨#[]⟩].toArray) := ⟨by kernel_rfl⟩
instance stt127 : Stt Tryd.prog 127 [(9, 0, 1)] := ⟨⟨_, Tryd.underlying127, by kernel_rfl⟩, by kernel_rfl⟩
instance inf127 : Inf Tryd.prog 127 1 16 (.agg [.string ⟨#[]⟩].toArray) := ⟨by kernel_rfl⟩
instance stt128 : Stt Tryd.prog 128 [(17, 0, 1), (17, 1, 1), (17, 2, 1), (9, 3, 1)] := ⟨⟨_, Tryd.underlying128, by kernel_rfl⟩, by kernel_rfl⟩
instance inf128 : Inf Tryd.prog 128 4 40 (.agg [.pointer none, .pointer none, .pointer none, .string ⟨#[]⟩].toArray) := ⟨by kernel_rfl⟩
instance stt129 : Stt Tryd.prog 129 [(17, 0, 1), (17, 1, 1), (17, 2, 1), (9, 3, 1)] := ⟨⟨_, Tryd.underlying129, by kernel_rfl⟩, by kernel_rfl⟩
instance inf129 : Inf Tryd.prog 129 4 40 (.agg [.pointer none, .pointer none, .pointer none, .string ⟨#[]⟩].toArray) := ⟨by kernel_rfl⟩
instance stt131 : Stt Tryd.prog 131 [(130, 0, 0)] := ⟨⟨_, Tryd.underlying131, by kernel_rfl⟩, by kernel_rfl⟩
instance stt132 : Stt Tryd.prog 132 [(130, 0, 0)] := ⟨⟨_, Tryd.underlying132, by kernel_rfl⟩, by kernel_rfl⟩
instance inf133 : Inf Tryd.prog 133 1 8 (.nilFunc) := ⟨by kernel_rfl⟩
instance ty134 : Ty Tryd.prog 134 (.int .u8) := ⟨by kernel_rfl⟩
instance one134 : One Tryd.prog 134 := ⟨_, ty134.und, (fun F h => by cases h), (fun n e h => by cases h)⟩
instance inf134 : Inf Tryd.prog 134 1 1 (.int .u8 0) := ⟨by kernel_rfl⟩
instance ty135 : Ty Tryd.prog 135 (.int .u8) := ⟨by kernel_rfl⟩
instance one135 : One Tryd.prog 135 := ⟨_, ty135.und, (fun F h => by cases h), (fun n e h => by cases h)⟩
instance inf135 : Inf Tryd.prog 135 1 1 (.int .u8 0) := ⟨by kernel_rfl⟩
instance inf136 : Inf Tryd.prog 136 1 8 (.nilFunc) := ⟨by kernel_rfl⟩
instance ty137 : Ty Tryd.prog 137 (.int .i32) := ⟨by kernel_rfl⟩
instance one137 : One Tryd.prog 137 := ⟨_, ty137.und, (fun F h => by cases h), (fun n e h => by cases h)⟩
instance inf137 : Inf Tryd.prog 137 1 4 (.int .i32 0) := ⟨by kernel_rfl⟩
instance ty138 : Ty Tryd.prog 138 (.int .i32) := ⟨by kernel_rfl⟩
instance one138 : One Tryd.prog 138 := ⟨_, ty138.und, (fun F h => by cases h), (fun n e h => by cases h)⟩
instance inf138 : Inf Tryd.prog 138 1 4 (.int .i32 0) := ⟨by kernel_rfl⟩
instance stt139 : Stt Tryd.prog 139 [(12, 0, 1), (12, 1, 1), (98, 2, 1), (134, 3, 1), (5, 4, 1), (5, 5, 1), (135, 6, 1), (136, 7, 1), (76, 8, 1), (137, 9, 1), (138, 10, 1)] := ⟨⟨_, Tryd.underlying139, by kernel_rfl⟩, by kernel_rfl⟩
instance inf139 : Inf Tryd.prog 139 11 48 (.agg [.int .u64 0, .int .u64 0, .int .u32 0, .int .u8 0, .int .u8 0, .int .u8 0, .int .u8 0, .nilFunc, .pointer none, .int .i32 0, .int .i32 0].toArray) := ⟨by kernel_rfl⟩
instance stt140 : Stt Tryd.prog 140 [(12, 0, 1), (12, 1, 1), (98, 2, 1), (134, 3, 1), (5, 4, 1), (5, 5, 1), (135, 6, 1), (136, 7, 1), (76, 8, 1), (137, 9, 1), (138, 10, 1)] := ⟨⟨_, Tryd.underlying140, by kernel_rfl⟩, by kernel_rfl⟩
instance inf140 : Inf Tryd.prog 140 11 48 (.agg [.int .u64 0, .int .u64 0, .int .u32 0, .int .u8 0, .int .u8 0, .int .u8 0, .int .u8 0, .nilFunc, .pointer none, .int .i32 0, .int .i32 0].toArray) := ⟨by kernel_rfl⟩
instance fnc2 : Fnc Tryd.prog 2 := ⟨_, Tryd.func2, by kernel_rfl, rfl⟩
instance fnc3 : Fnc Tryd.prog 3 := ⟨_, Tryd.func3, by kernel_rfl, rfl⟩
instance fnc4 : Fnc Tryd.prog 4 := ⟨_, Tryd.func4, by kernel_rfl, rfl⟩
instance fnc5 : Fnc Tryd.prog 5 := ⟨_, Tryd.func5, by kernel_rfl, rfl⟩
instance fnc6 : Fnc Tryd.prog 6 := ⟨_, Tryd.func6, by kernel_rfl, rfl⟩
instance fnc7 : Fnc Tryd.prog 7 := ⟨_, Tryd.func7, by kernel_rfl, rfl⟩
instance fnc8 : Fnc Tryd.prog 8 := ⟨_, Tryd.func8, by kernel_rfl, rfl⟩
instance fnc9 : Fnc Tryd.prog 9 := ⟨_, Tryd.func9, by kernel_rfl, rfl⟩
instance fnc10 : Fnc Tryd.prog 10 := ⟨_, Tryd.func10, by kernel_rfl, rfl⟩
instance fnc11 : Fnc Tryd.prog 11 := ⟨_, Tryd.func11, by kernel_rfl, rfl⟩
instance fnc12 : Fnc Tryd.prog 12 := ⟨_, Tryd.func12, by kernel_rfl, rfl⟩
instance fnc13 : Fnc Tryd.prog 13 := ⟨_, Tryd.func13, by kernel_rfl, rfl⟩
instance fnc14 : Fnc Tryd.prog 14 := ⟨_, Tryd.func14, by kernel_rfl, rfl⟩
instance fnc15 : Fnc Tryd.prog 15 := ⟨_, Tryd.func15, by kernel_rfl, rfl⟩
instance fnc16 : Fnc Tryd.prog 16 := ⟨_, Tryd.func16, by kernel_rfl, rfl⟩
instance fnc17 : Fnc Tryd.prog 17 := ⟨_, Tryd.func17, by kernel_rfl, rfl⟩
instance fnc18 : Fnc Tryd.prog 18 := ⟨_, Tryd.func18, by kernel_rfl, rfl⟩
instance fnc19 : Fnc Tryd.prog 19 := ⟨_, Tryd.func19, by kernel_rfl, rfl⟩
instance fnc20 : Fnc Tryd.prog 20 := ⟨_, Tryd.func20, by kernel_rfl, rfl⟩
instance fnc21 : Fnc Tryd.prog 21 := ⟨_, Tryd.func21, by kernel_rfl, rfl⟩
instance fnc22 : Fnc Tryd.prog 22 := ⟨_, Tryd.func22, by kernel_rfl, rfl⟩
instance fnc23 : Fnc Tryd.prog 23 := ⟨_, Tryd.func23, by kernel_rfl, rfl⟩
instance fnc24 : Fnc Tryd.prog 24 := ⟨_, Tryd.func24, by kernel_rfl, rfl⟩
instance fnc25 : Fnc Tryd.prog 25 := ⟨_, Tryd.func25, by kernel_rfl, rfl⟩
instance fnc26 : Fnc Tryd.prog 26 := ⟨_, Tryd.func26, by kernel_rfl, rfl⟩
instance fnc27 : Fnc Tryd.prog 27 := ⟨_, Tryd.func27, by kernel_rfl, rfl⟩
instance fnc28 : Fnc Tryd.prog 28 := ⟨_, Tryd.func28, by kernel_rfl, rfl⟩
instance fnc29 : Fnc Tryd.prog 29 := ⟨_, Tryd.func29, by kernel_rfl, rfl⟩
instance fnc30 : Fnc Tryd.prog 30 := ⟨_, Tryd.func30, by kernel_rfl, rfl⟩
instance fnc31 : Fnc Tryd.prog 31 := ⟨_, Tryd.func31, by kernel_rfl, rfl⟩
instance fnc32 : Fnc Tryd.prog 32 := ⟨_, Tryd.func32, by kernel_rfl, rfl⟩
instance fnc33 : Fnc Tryd.prog 33 := ⟨_, Tryd.func33, by kernel_rfl, rfl⟩
instance fnc34 : Fnc Tryd.prog 34 := ⟨_, Tryd.func34, by kernel_rfl, rfl⟩
instance fnc35 : Fnc Tryd.prog 35 := ⟨_, Tryd.func35, by kernel_rfl, rfl⟩
instance fnc36 : Fnc Tryd.prog 36 := ⟨_, Tryd.func36, by kernel_rfl, rfl⟩
instance fnc37 : Fnc Tryd.prog 37 := ⟨_, Tryd.func37, by kernel_rfl, rfl⟩
instance fnc38 : Fnc Tryd.prog 38 := ⟨_, Tryd.func38, by kernel_rfl, rfl⟩
instance fnc39 : Fnc Tryd.prog 39 := ⟨_, Tryd.func39, by kernel_rfl, rfl⟩
instance fnc40 : Fnc Tryd.prog 40 := ⟨_, Tryd.func40, by kernel_rfl, rfl⟩
instance fnc41 : Fnc Tryd.prog 41 := ⟨_, Tryd.func41, by kernel_rfl, rfl⟩
instance fnc42 : Fnc Tryd.prog 42 := ⟨_, Tryd.func42, by kernel_rfl, rfl⟩
instance fnc43 : Fnc Tryd.prog 43 := ⟨_, Tryd.func43, by kernel_rfl, rfl⟩
instance fnc44 : Fnc Tryd.prog 44 := ⟨_, Tryd.func44, by kernel_rfl, rfl⟩
instance fnc45 : Fnc Tryd.prog 45 := ⟨_, Tryd.func45, by kernel_rfl, rfl⟩
instance fnc46 : Fnc Tryd.prog 46 := ⟨_, Tryd.func46, by kernel_rfl, rfl⟩
instance fnc47 : Fnc Tryd.prog 47 := ⟨_, Tryd.func47, by kernel_rfl, rfl⟩
instance fnc48 : Fnc Tryd.prog 48 := ⟨_, Tryd.func48, by kernel_rfl, rfl⟩
instance fnc50 : Fnc Tryd.prog 50 := ⟨_, Tryd.func50, by kernel_rfl, rfl⟩
instance fnc51 : Fnc Tryd.prog 51 := ⟨_, Tryd.func51, by kernel_rfl, rfl⟩
instance fnc52 : Fnc Tryd.prog 52 := ⟨_, Tryd.func52, by kernel_rfl, rfl⟩
instance fnc53 : Fnc Tryd.prog 53 := ⟨_, Tryd.func53, by kernel_rfl, rfl⟩
instance fnc54 : Fnc Tryd.prog 54 := ⟨_, Tryd.func54, by kernel_rfl, rfl⟩
instance fnc55 : Fnc Tryd.prog 55 := ⟨_, Tryd.func55, by kernel_rfl, rfl⟩
instance fnc56 : Fnc Tryd.prog 56 := ⟨_, Tryd.func56, by kernel_rfl, rfl⟩
instance fnc57 : Fnc Tryd.prog 57 := ⟨_, Tryd.func57, by kernel_rfl, rfl⟩
instance fnc58 : Fnc Tryd.prog 58 := ⟨_, Tryd.func58, by kernel_rfl, rfl⟩
instance fnc59 : Fnc Tryd.prog 59 := ⟨_, Tryd.func59, by kernel_rfl, rfl⟩
instance fnc60 : Fnc Tryd.prog 60 := ⟨_, Tryd.func60, by kernel_rfl, rfl⟩
instance fnc61 : Fnc Tryd.prog 61 := ⟨_, Tryd.func61, by kernel_rfl, rfl⟩
instance fnc62 : Fnc Tryd.prog 62 := ⟨_, Tryd.func62, by kernel_rfl, rfl⟩
instance fnc63 : Fnc Tryd.prog 63 := ⟨_, Tryd.func63, by kernel_rfl, rfl⟩
instance fnc64 : Fnc Tryd.prog 64 := ⟨_, Tryd.func64, by kernel_rfl, rfl⟩
instance fnc65 : Fnc Tryd.prog 65 := ⟨_, Tryd.func65, by kernel_rfl, rfl⟩
instance fnc66 : Fnc Tryd.prog 66 := ⟨_, Tryd.func66, by kernel_rfl, rfl⟩
instance fnc67 : Fnc Tryd.prog 67 := ⟨_, Tryd.func67, by kernel_rfl, rfl⟩
instance fnc68 : Fnc Tryd.prog 68 := ⟨_, Tryd.func68, by kernel_rfl, rfl⟩
instance fnc69 : Fnc Tryd.prog 69 := ⟨_, Tryd.func69, by kernel_rfl, rfl⟩
instance fnc71 : Fnc Tryd.prog 71 := ⟨_, Tryd.func71, by kernel_rfl, rfl⟩
instance fnc73 : Fnc Tryd.prog 73 := ⟨_, Tryd.func73, by kernel_rfl, rfl⟩
instance fnc74 : Fnc Tryd.prog 74 := ⟨_, Tryd.func74, by kernel_rfl, rfl⟩
instance fnc75 : Fnc Tryd.prog 75 := ⟨_, Tryd.func75, by kernel_rfl, rfl⟩
instance fnc76 : Fnc Tryd.prog 76 := ⟨_, Tryd.func76, by kernel_rfl, rfl⟩
instance fnc77 : Fnc Tryd.prog 77 := ⟨_, Tryd.func77, by kernel_rfl, rfl⟩
instance fnc78 : Fnc Tryd.prog 78 := ⟨_, Tryd.func78, by kernel_rfl, rfl⟩
instance fnc79 : Fnc Tryd.prog 79 := ⟨_, Tryd.func79, by kernel_rfl, rfl⟩
instance fnc80 : Fnc Tryd.prog 80 := ⟨_, Tryd.func80, by kernel_rfl, rfl⟩
instance fnc82 : Fnc Tryd.prog 82 := ⟨_, Tryd.func82, by kernel_rfl, rfl⟩
instance fnc83 : Fnc Tryd.prog 83 := ⟨_, Tryd.func83, by kernel_rfl, rfl⟩
instance fnc84 : Fnc Tryd.prog 84 := ⟨_, Tryd.func84, by kernel_rfl, rfl⟩
instance fnc85 : Fnc Tryd.prog 85 := ⟨_, Tryd.func85, by kernel_rfl, rfl⟩
instance fnc86 : Fnc Tryd.prog 86 := ⟨_, Tryd.func86, by kernel_rfl, rfl⟩
instance fnc87 : Fnc Tryd.prog 87 := ⟨_, Tryd.func87, by kernel_rfl, rfl⟩
instance fnc88 : Fnc Tryd.prog 88 := ⟨_, Tryd.func88, by kernel_rfl, rfl⟩
instance fnc89 : Fnc Tryd.prog 89 := ⟨_, Tryd.func89, by kernel_rfl, rfl⟩
instance fnc90 : Fnc Tryd.prog 90 := ⟨_, Tryd.func90, by kernel_rfl, rfl⟩
instance fnc91 : Fnc Tryd.prog 91 := ⟨_, Tryd.func91, by kernel_rfl, rfl⟩
instance fnc123 : Fnc Tryd.prog 123 := ⟨_, Tryd.func123, by kernel_rfl, rfl⟩
theorem mixed : Tryd.prog.follows .mixedOrders = true := by kernel_rfl
end Go.Proofs.YtbcflfkajkmkdaaDoor.X
