/-
  The types of the program, as the abstract run asks for them.
-/
import Derived.Test.YtamjbkaclhgffaaGreatSi15
set_option linter.all false
set_option maxRecDepth 100000
set_option maxHeartbeats 4000000
namespace Go.Proofs.YtamjbkaclhgffaaGreat
variable{fn:Func}{G Q:Prop}{t:Tc}{α:Type}{n:Unit->Int}{c:aN}{r:x7}
def AO:j9 := [
 (3,⟨1,.int .i64,[.lit .i64 0],[]⟩),(4,⟨1,.bool,[.aR false],[]⟩),(5,⟨1,.int .u8,[.lit .u8 0],[]⟩),(1,⟨1,.other,[.un],[]⟩),(2,⟨1,.int .i64,[.lit .i64 0],[]⟩),(7,⟨4,.struct [(0,1,false),(1,1,false),(2,1,false),(3,1,false)],[.lit .i64 0,.lit .i64 0,.aR false,.lit .u8 0],[]⟩),(9,⟨1,.str,[.str fun _=>j3],[]⟩),(12,⟨1,.int .u64,[.lit .u64 0],[]⟩),(13,⟨2,.struct [(0,1,false),(1,1,false)],[.str fun _=>j3,.lit .u64 0],[]⟩),(15,⟨1,.other,[.un],[]⟩),(16,⟨1,.other,[.un],[]⟩),(17,⟨1,.other,[.un],[]⟩),(18,⟨1,.struct [(0,1,false)],[.un],[]⟩),(21,⟨1,.int .i32,[.lit .i32 0],[]⟩),(22,⟨1,.slice 127 12 112,[.nil],[]⟩),(23,⟨1,.slice 167 2 32,[.nil],[]⟩),(24,⟨4,.struct [(0,1,false),(1,1,false),(2,1,false),(3,1,false)],[.lit .i64 0,.lit .i64 0,.lit .i64 0,.lit .i64 0],[]⟩),(25,⟨4,.struct [(0,1,false),(1,1,false),(2,1,false),(3,1,false)],[.lit .i64 0,.lit .i64 0,.lit .i64 0,.lit .i64 0],[.int .i64,.int .i64,.int .i64,.int .i64]⟩),(26,⟨1,.slice 234 5 40,[.nil],[]⟩),(27,⟨1,.slice 45 5 40,[.nil],[]⟩),(28,⟨1,.slice 121 6 64,[.nil],[]⟩),(29,⟨4,.struct [(0,1,false),(1,1,false),(2,1,false),(3,1,false)],[.lit .i64 0,.lit .i64 0,.lit .i64 0,.lit .i64 0],[]⟩),(30,⟨4,.struct [(0,1,false),(1,1,false),(2,1,false),(3,1,false)],[.lit .i64 0,.lit .i64 0,.lit .i64 0,.lit .i64 0],[.int .i64,.int .i64,.int .i64,.int .i64]⟩),(31,⟨13,.struct [(0,1,false),(1,1,false),(2,4,true),(6,1,false),(7,1,false),(8,1,false),(9,4,true)],[.nil,.nil,.lit .i64 0,.lit .i64 0,.lit .i64 0,.lit .i64 0,.nil,.nil,.nil,.lit .i64 0,.lit .i64 0,.lit .i64 0,.lit .i64 0],[]⟩),(32,⟨13,.struct [(0,1,false),(1,1,false),(2,4,true),(6,1,false),(7,1,false),(8,1,false),(9,4,true)],[.nil,.nil,.lit .i64 0,.lit .i64 0,.lit .i64 0,.lit .i64 0,.nil,.nil,.nil,.lit .i64 0,.lit .i64 0,.lit .i64 0,.lit .i64 0],[]⟩),(33,⟨1,.slice 141 9 64,[.nil],[]⟩),(34,⟨1,.slice 125 4 32,[.nil],[]⟩),(35,⟨1,.slice 3 1 8,[.nil],[]⟩),(36,⟨1,.other,[.un],[]⟩),(37,⟨1,.other,[.un],[]⟩),(38,⟨1,.other,[.un],[]⟩),(39,⟨1,.other,[.un],[]⟩),(40,⟨2,.struct [(0,1,false),(1,1,false)],[.lit .i64 0,.lit .i64 0],[]⟩),(41,⟨2,.struct [(0,1,false),(1,1,false)],[.lit .i64 0,.lit .i64 0],[.int .i64,.int .i64]⟩),(42,⟨1,.slice 41 2 16,[.nil],[]⟩),(43,⟨1,.other,[.un],[]⟩),(44,⟨5,.struct [(0,1,false),(1,1,false),(2,1,false),(3,1,false),(4,1,false)],[.lit .i64 0,.lit .i64 0,.lit .i64 0,.lit .i64 0,.lit .i64 0],[]⟩),(45,⟨5,.struct [(0,1,false),(1,1,false),(2,1,false),(3,1,false),(4,1,false)],[.lit .i64 0,.lit .i64 0,.lit .i64 0,.lit .i64 0,.lit .i64 0],[.int .i64,.int .i64,.int .i64,.int .i64,.int .i64]⟩),(46,⟨1,.other,[.un],[]⟩),(47,⟨5,.array 5 46 1 false,[.un,.un,.un,.un,.un],[]⟩),(48,⟨1,.other,[.un],[]⟩),(49,⟨1,.int .u32,[.lit .u32 0],[]⟩),(50,⟨8,.array 8 49 1 false,[.lit .u32 0,.lit .u32 0,.lit .u32 0,.lit .u32 0,.lit .u32 0,.lit .u32 0,.lit .u32 0,.lit .u32 0],[.int .u32,.int .u32,.int .u32,.int .u32,.int .u32,.int .u32,.int .u32,.int .u32]⟩),(51,⟨17,.struct [(0,1,false),(1,8,true),(9,8,true)],[.aR false,.lit .u32 0,.lit .u32 0,.lit .u32 0,.lit .u32 0,.lit .u32 0,.lit .u32 0,.lit .u32 0,.lit .u32 0,.lit .u32 0,.lit .u32 0,.lit .u32 0,.lit .u32 0,.lit .u32 0,.lit .u32 0,.lit .u32 0,.lit .u32 0],[]⟩),(52,⟨17,.struct [(0,1,false),(1,8,true),(9,8,true)],[.aR false,.lit .u32 0,.lit .u32 0,.lit .u32 0,.lit .u32 0,.lit .u32 0,.lit .u32 0,.lit .u32 0,.lit .u32 0,.lit .u32 0,.lit .u32 0,.lit .u32 0,.lit .u32 0,.lit .u32 0,.lit .u32 0,.lit .u32 0,.lit .u32 0],[.bool,.int .u32,.int .u32,.int .u32,.int .u32,.int .u32,.int .u32,.int .u32,.int .u32,.int .u32,.int .u32,.int .u32,.int .u32,.int .u32,.int .u32,.int .u32,.int .u32]⟩),(53,⟨1,.other,[.un],[]⟩),(54,⟨34,.struct [(0,17,true),(17,17,true)],[.aR false,.lit .u32 0,.lit .u32 0,.lit .u32 0,.lit .u32 0,.lit .u32 0,.lit .u32 0,.lit .u32 0,.lit .u32 0,.lit .u32 0,.lit .u32 0,.lit .u32 0,.lit .u32 0,.lit .u32 0,.lit .u32 0,.lit .u32 0,.lit .u32 0,.aR false,.lit .u32 0,.lit .u32 0,.lit .u32 0,.lit .u32 0,.lit .u32 0,.lit .u32 0,.lit .u32 0,.lit .u32 0,.lit .u32 0,.lit .u32 0,.lit .u32 0,.lit .u32 0,.lit .u32 0,.lit .u32 0,.lit .u32 0,.lit .u32 0],[]⟩),(55,⟨34,.struct [(0,17,true),(17,17,true)],[.aR false,.lit .u32 0,.lit .u32 0,.lit .u32 0,.lit .u32 0,.lit .u32 0,.lit .u32 0,.lit .u32 0,.lit .u32 0,.lit .u32 0,.lit .u32 0,.lit .u32 0,.lit .u32 0,.lit .u32 0,.lit .u32 0,.lit .u32 0,.lit .u32 0,.aR false,.lit .u32 0,.lit .u32 0,.lit .u32 0,.lit .u32 0,.lit .u32 0,.lit .u32 0,.lit .u32 0,.lit .u32 0,.lit .u32 0,.lit .u32 0,.lit .u32 0,.lit .u32 0,.lit .u32 0,.lit .u32 0,.lit .u32 0,.lit .u32 0],[.bool,.int .u32,.int .u32,.int .u32,.int .u32,.int .u32,.int .u32,.int .u32,.int .u32,.int .u32,.int .u32,.int .u32,.int .u32,.int .u32,.int .u32,.int .u32,.int .u32,.bool,.int .u32,.int .u32,.int .u32,.int .u32,.int .u32,.int .u32,.int .u32,.int .u32,.int .u32,.int .u32,.int .u32,.int .u32,.int .u32,.int .u32,.int .u32,.int .u32]⟩),(56,⟨1,.other,[.un],[]⟩),(57,⟨1,.slice 55 34 136,[.nil],[]⟩),(58,⟨1,.other,[.un],[]⟩),(59,⟨1,.slice 204 4 4,[.nil],[]⟩),(60,⟨1,.slice 208 4 4,[.nil],[]⟩),(61,⟨1,.slice 134 6 10,[.nil],[]⟩),(62,⟨1,.slice 5 1 1,[.nil],[]⟩),(63,⟨1,.slice 136 5 10,[.nil],[]⟩),(65,⟨1,.other,[.un],[]⟩),(67,⟨1,.other,[.un],[]⟩),(69,⟨1,.other,[.un],[]⟩),(70,⟨1,.int .i64,[.lit .i64 0],[]⟩),(72,⟨1,.other,[.un],[]⟩),(73,⟨4,.struct [(0,1,false),(1,1,false),(2,1,false),(3,1,false)],[.lit .i64 0,.lit .i64 0,.lit .i64 0,.lit .i64 0],[.int .i64,.int .i64,.int .i64,.int .i64]⟩),(75,⟨1,.other,[.un],[]⟩),(76,⟨1,.other,[.un],[]⟩),(77,⟨1,.other,[.un],[]⟩),(79,⟨1,.other,[.un],[]⟩),(80,⟨1,.other,[.un],[]⟩),(81,⟨1,.other,[.un],[]⟩),(82,⟨1,.other,[.un],[]⟩),(83,⟨1,.other,[.un],[]⟩),(84,⟨1,.other,[.un],[]⟩),(85,⟨1,.other,[.un],[]⟩),(86,⟨1,.other,[.un],[]⟩),(87,⟨1,.slice 94 2 16,[.nil],[]⟩),(89,⟨1,.other,[.un],[]⟩),(90,⟨1,.slice 110 34 136,[.nil],[]⟩),(92,⟨1,.other,[.un],[]⟩),(93,⟨1,.other,[.un],[]⟩),(94,⟨2,.struct [(0,1,false),(1,1,false)],[.lit .i64 0,.lit .i64 0],[.int .i64,.int .i64]⟩),(95,⟨1,.other,[.un],[]⟩),(96,⟨1,.other,[.un],[]⟩),(97,⟨1,.other,[.un],[]⟩),(98,⟨1,.other,[.un],[]⟩),(99,⟨136,.array 4 55 34 true,[.aR false,.lit .u32 0,.lit .u32 0,.lit .u32 0,.lit .u32 0,.lit .u32 0,.lit .u32 0,.lit .u32 0,.lit .u32 0,.lit .u32 0,.lit .u32 0,.lit .u32 0,.lit .u32 0,.lit .u32 0,.lit .u32 0,.lit .u32 0,.lit .u32 0,.aR false,.lit .u32 0,.lit .u32 0,.lit .u32 0,.lit .u32 0,.lit .u32 0,.lit .u32 0,.lit .u32 0,.lit .u32 0,.lit .u32 0,.lit .u32 0,.lit .u32 0,.lit .u32 0,.lit .u32 0,.lit .u32 0,.lit .u32 0,.lit .u32 0,.aR false,.lit .u32 0,.lit .u32 0,.lit .u32 0,.lit .u32 0,.lit .u32 0,.lit .u32 0,.lit .u32 0,.lit .u32 0,.lit .u32 0,.lit .u32 0,.lit .u32 0,.lit .u32 0,.lit .u32 0,.lit .u32 0,.lit .u32 0,.lit .u32 0,.aR false,.lit .u32 0,.lit .u32 0,.lit .u32 0,.lit .u32 0,.lit .u32 0,.lit .u32 0,.lit .u32 0,.lit .u32 0,.lit .u32 0,.lit .u32 0,.lit .u32 0,.lit .u32 0,.lit .u32 0,.lit .u32 0,.lit .u32 0,.lit .u32 0,.aR false,.lit .u32 0,.lit .u32 0,.lit .u32 0,.lit .u32 0,.lit .u32 0,.lit .u32 0,.lit .u32 0,.lit .u32 0,.lit .u32 0,.lit .u32 0,.lit .u32 0,.lit .u32 0,.lit .u32 0,.lit .u32 0,.lit .u32 0,.lit .u32 0,.aR false,.lit .u32 0,.lit .u32 0,.lit .u32 0,.lit .u32 0,.lit .u32 0,.lit .u32 0,.lit .u32 0,.lit .u32 0,.lit .u32 0,.lit .u32 0,.lit .u32 0,.lit .u32 0,.lit .u32 0,.lit .u32 0,.lit .u32 0,.lit .u32 0,.aR false,.lit .u32 0,.lit .u32 0,.lit .u32 0,.lit .u32 0,.lit .u32 0,.lit .u32 0,.lit .u32 0,.lit .u32 0,.lit .u32 0,.lit .u32 0,.lit .u32 0,.lit .u32 0,.lit .u32 0,.lit .u32 0,.lit .u32 0,.lit .u32 0,.aR false,.lit .u32 0,.lit .u32 0,.lit .u32 0,.lit .u32 0,.lit .u32 0,.lit .u32 0,.lit .u32 0,.lit .u32 0,.lit .u32 0,.lit .u32 0,.lit .u32 0,.lit .u32 0,.lit .u32 0,.lit .u32 0,.lit .u32 0,.lit .u32 0],[]⟩),(101,⟨1,.other,[.un],[]⟩),(102,⟨1,.other,[.un],[]⟩),(103,⟨1,.other,[.un],[]⟩),(104,⟨1,.other,[.un],[]⟩),(106,⟨1,.other,[.un],[]⟩),(107,⟨1,.other,[.un],[]⟩),(108,⟨17,.struct [(0,1,false),(1,8,true),(9,8,true)],[.aR false,.lit .u32 0,.lit .u32 0,.lit .u32 0,.lit .u32 0,.lit .u32 0,.lit .u32 0,.lit .u32 0,.lit .u32 0,.lit .u32 0,.lit .u32 0,.lit .u32 0,.lit .u32 0,.lit .u32 0,.lit .u32 0,.lit .u32 0,.lit .u32 0],[.bool,.int .u32,.int .u32,.int .u32,.int .u32,.int .u32,.int .u32,.int .u32,.int .u32,.int .u32,.int .u32,.int .u32,.int .u32,.int .u32,.int .u32,.int .u32,.int .u32]⟩),(109,⟨34,.struct [(0,17,true),(17,17,true)],[.aR false,.lit .u32 0,.lit .u32 0,.lit .u32 0,.lit .u32 0,.lit .u32 0,.lit .u32 0,.lit .u32 0,.lit .u32 0,.lit .u32 0,.lit .u32 0,.lit .u32 0,.lit .u32 0,.lit .u32 0,.lit .u32 0,.lit .u32 0,.lit .u32 0,.aR false,.lit .u32 0,.lit .u32 0,.lit .u32 0,.lit .u32 0,.lit .u32 0,.lit .u32 0,.lit .u32 0,.lit .u32 0,.lit .u32 0,.lit .u32 0,.lit .u32 0,.lit .u32 0,.lit .u32 0,.lit .u32 0,.lit .u32 0,.lit .u32 0],[]⟩),(110,⟨34,.struct [(0,17,true),(17,17,true)],[.aR false,.lit .u32 0,.lit .u32 0,.lit .u32 0,.lit .u32 0,.lit .u32 0,.lit .u32 0,.lit .u32 0,.lit .u32 0,.lit .u32 0,.lit .u32 0,.lit .u32 0,.lit .u32 0,.lit .u32 0,.lit .u32 0,.lit .u32 0,.lit .u32 0,.aR false,.lit .u32 0,.lit .u32 0,.lit .u32 0,.lit .u32 0,.lit .u32 0,.lit .u32 0,.lit .u32 0,.lit .u32 0,.lit .u32 0,.lit .u32 0,.lit .u32 0,.lit .u32 0,.lit .u32 0,.lit .u32 0,.lit .u32 0,.lit .u32 0],[.bool,.int .u32,.int .u32,.int .u32,.int .u32,.int .u32,.int .u32,.int .u32,.int .u32,.int .u32,.int .u32,.int .u32,.int .u32,.int .u32,.int .u32,.int .u32,.int .u32,.bool,.int .u32,.int .u32,.int .u32,.int .u32,.int .u32,.int .u32,.int .u32,.int .u32,.int .u32,.int .u32,.int .u32,.int .u32,.int .u32,.int .u32,.int .u32,.int .u32]⟩),(112,⟨1,.other,[.un],[]⟩),(113,⟨1,.slice 49 1 4,[.nil],[]⟩),(114,⟨1,.slice 49 1 4,[.nil],[]⟩),(115,⟨1,.other,[.un],[]⟩),(116,⟨1,.other,[.un],[]⟩),(117,⟨1,.int .u64,[.lit .u64 0],[]⟩),(118,⟨1,.other,[.un],[]⟩),(119,⟨1,.other,[.un],[]⟩),(120,⟨6,.struct [(0,1,false),(1,1,false),(2,1,false),(3,1,false),(4,1,false),(5,1,false)],[.lit .i64 0,.lit .i64 0,.lit .i64 0,.lit .i64 0,.lit .i64 0,.nil],[]⟩),(121,⟨6,.struct [(0,1,false),(1,1,false),(2,1,false),(3,1,false),(4,1,false),(5,1,false)],[.lit .i64 0,.lit .i64 0,.lit .i64 0,.lit .i64 0,.lit .i64 0,.nil],[]⟩),(122,⟨3,.struct [(0,1,false),(1,1,false),(2,1,false)],[.lit .i64 0,.lit .i64 0,.lit .u8 0],[]⟩),(123,⟨3,.struct [(0,1,false),(1,1,false),(2,1,false)],[.lit .i64 0,.lit .i64 0,.lit .u8 0],[.int .i64,.int .i64,.int .u8]⟩),(124,⟨4,.struct [(0,1,false),(1,3,true)],[.lit .i64 0,.lit .i64 0,.lit .i64 0,.lit .u8 0],[]⟩),(125,⟨4,.struct [(0,1,false),(1,3,true)],[.lit .i64 0,.lit .i64 0,.lit .i64 0,.lit .u8 0],[.int .i64,.int .i64,.int .i64,.int .u8]⟩),(126,⟨12,.struct [(0,1,false),(1,1,false),(2,1,false),(3,1,false),(4,1,false),(5,1,false),(6,1,false),(7,1,false),(8,1,false),(9,1,false),(10,1,false),(11,1,false)],[.lit .i64 0,.lit .i64 0,.aR false,.lit .i64 0,.lit .i64 0,.lit .i64 0,.lit .i64 0,.lit .i64 0,.nil,.lit .i64 0,.lit .i64 0,.lit .i64 0],[]⟩),(127,⟨12,.struct [(0,1,false),(1,1,false),(2,1,false),(3,1,false),(4,1,false),(5,1,false),(6,1,false),(7,1,false),(8,1,false),(9,1,false),(10,1,false),(11,1,false)],[.lit .i64 0,.lit .i64 0,.aR false,.lit .i64 0,.lit .i64 0,.lit .i64 0,.lit .i64 0,.lit .i64 0,.nil,.lit .i64 0,.lit .i64 0,.lit .i64 0],[]⟩),(128,⟨1,.other,[.un],[]⟩),(130,⟨1,.other,[.un],[]⟩),(131,⟨1,.int .i16,[.lit .i16 0],[]⟩),(132,⟨1,.int .u16,[.lit .u16 0],[]⟩),(133,⟨6,.struct [(0,1,false),(1,1,false),(2,1,false),(3,1,false),(4,1,false),(5,1,false)],[.lit .u8 0,.lit .u8 0,.lit .i16 0,.lit .i16 0,.lit .i16 0,.lit .u16 0],[]⟩),(134,⟨6,.struct [(0,1,false),(1,1,false),(2,1,false),(3,1,false),(4,1,false),(5,1,false)],[.lit .u8 0,.lit .u8 0,.lit .i16 0,.lit .i16 0,.lit .i16 0,.lit .u16 0],[.int .u8,.int .u8,.int .i16,.int .i16,.int .i16,.int .u16]⟩),(135,⟨5,.struct [(0,1,false),(1,1,false),(2,1,false),(3,1,false),(4,1,false)],[.lit .u16 0,.lit .u16 0,.lit .u16 0,.lit .u16 0,.lit .u8 0],[]⟩),(136,⟨5,.struct [(0,1,false),(1,1,false),(2,1,false),(3,1,false),(4,1,false)],[.lit .u16 0,.lit .u16 0,.lit .u16 0,.lit .u16 0,.lit .u8 0],[.int .u16,.int .u16,.int .u16,.int .u16,.int .u8]⟩),(137,⟨1,.other,[.un],[]⟩),(138,⟨1,.other,[.un],[]⟩),(139,⟨1,.map 3 3 (.one (.int .i64)) .int false,[.un],[]⟩),(140,⟨9,.struct [(0,1,false),(1,1,false),(2,1,false),(3,1,false),(4,1,false),(5,1,false),(6,1,false),(7,1,false),(8,1,false)],[.lit .i64 0,.str fun _=>j3,.lit .u8 0,.aR false,.lit .i64 0,.lit .i64 0,.lit .i64 0,.lit .u8 0,.aR false],[]⟩),(141,⟨9,.struct [(0,1,false),(1,1,false),(2,1,false),(3,1,false),(4,1,false),(5,1,false),(6,1,false),(7,1,false),(8,1,false)],[.lit .i64 0,.str fun _=>j3,.lit .u8 0,.aR false,.lit .i64 0,.lit .i64 0,.lit .i64 0,.lit .u8 0,.aR false],[.int .i64,.str,.int .u8,.bool,.int .i64,.int .i64,.int .i64,.int .u8,.bool]⟩),(142,⟨3,.array 3 3 1 false,[.lit .i64 0,.lit .i64 0,.lit .i64 0],[.int .i64,.int .i64,.int .i64]⟩),(143,⟨1,.slice 148 12 88,[.nil],[]⟩),(145,⟨1,.other,[.un],[]⟩),(146,⟨1,.slice 73 4 32,[.nil],[]⟩),(147,⟨12,.struct [(0,9,true),(9,1,false),(10,1,false),(11,1,false)],[.lit .i64 0,.str fun _=>j3,.lit .u8 0,.aR false,.lit .i64 0,.lit .i64 0,.lit .i64 0,.lit .u8 0,.aR false,.lit .i64 0,.lit .i64 0,.lit .i64 0],[]⟩),(148,⟨12,.struct [(0,9,true),(9,1,false),(10,1,false),(11,1,false)],[.lit .i64 0,.str fun _=>j3,.lit .u8 0,.aR false,.lit .i64 0,.lit .i64 0,.lit .i64 0,.lit .u8 0,.aR false,.lit .i64 0,.lit .i64 0,.lit .i64 0],[.int .i64,.str,.int .u8,.bool,.int .i64,.int .i64,.int .i64,.int .u8,.bool,.int .i64,.int .i64,.int .i64]⟩),(149,⟨1,.other,[.un],[]⟩),(150,⟨1,.other,[.un],[]⟩),(151,⟨1,.other,[.un],[]⟩),(152,⟨1,.other,[.un],[]⟩),(153,⟨1,.other,[.un],[]⟩),(154,⟨1,.other,[.un],[]⟩),(155,⟨1,.other,[.un],[]⟩),(156,⟨1,.other,[.un],[]⟩),(157,⟨1,.other,[.un],[]⟩),(158,⟨1,.slice 162 6 48,[.nil],[]⟩),(160,⟨1,.other,[.un],[]⟩),(161,⟨6,.array 6 3 1 false,[.lit .i64 0,.lit .i64 0,.lit .i64 0,.lit .i64 0,.lit .i64 0,.lit .i64 0],[.int .i64,.int .i64,.int .i64,.int .i64,.int .i64,.int .i64]⟩),(162,⟨6,.array 6 3 1 false,[.lit .i64 0,.lit .i64 0,.lit .i64 0,.lit .i64 0,.lit .i64 0,.lit .i64 0],[.int .i64,.int .i64,.int .i64,.int .i64,.int .i64,.int .i64]⟩),(163,⟨1,.other,[.un],[]⟩),(164,⟨1,.other,[.un],[]⟩),(165,⟨1,.other,[.un],[]⟩),(166,⟨2,.struct [(0,1,false),(1,1,false)],[.lit .i64 0,.nil],[]⟩),(167,⟨2,.struct [(0,1,false),(1,1,false)],[.lit .i64 0,.nil],[]⟩),(168,⟨1,.other,[.un],[]⟩),(169,⟨1,.other,[.un],[]⟩),(170,⟨1,.other,[.un],[]⟩),(171,⟨1,.other,[.un],[]⟩),(172,⟨1,.other,[.un],[]⟩),(173,⟨1,.other,[.un],[]⟩),(174,⟨1,.other,[.un],[]⟩),(176,⟨1,.other,[.un],[]⟩),(177,⟨1,.other,[.un],[]⟩),(178,⟨1,.other,[.un],[]⟩),(179,⟨1,.other,[.un],[]⟩),(180,⟨1,.other,[.un],[]⟩),(181,⟨1,.other,[.un],[]⟩),(182,⟨1,.other,[.un],[]⟩),(183,⟨1,.other,[.un],[]⟩),(184,⟨1,.other,[.un],[]⟩),(185,⟨1,.other,[.un],[]⟩),(186,⟨1,.other,[.un],[]⟩),(188,⟨1,.other,[.un],[]⟩),(189,⟨1,.slice 108 17 68,[.nil],[]⟩),(190,⟨1,.other,[.un],[]⟩),(191,⟨1,.other,[.un],[]⟩),(192,⟨1,.other,[.un],[]⟩),(193,⟨1,.other,[.un],[]⟩),(194,⟨1,.other,[.un],[]⟩),(195,⟨1,.other,[.un],[]⟩),(196,⟨1,.other,[.un],[]⟩),(197,⟨1,.other,[.un],[]⟩),(199,⟨1,.other,[.un],[]⟩),(200,⟨1,.other,[.un],[]⟩),(201,⟨1,.int .u64,[.lit .u64 0],[]⟩),(202,⟨1,.other,[.un],[]⟩),(203,⟨4,.struct [(0,1,false),(1,1,false),(2,1,false),(3,1,false)],[.lit .u8 0,.lit .u8 0,.lit .u8 0,.aR false],[]⟩),(204,⟨4,.struct [(0,1,false),(1,1,false),(2,1,false),(3,1,false)],[.lit .u8 0,.lit .u8 0,.lit .u8 0,.aR false],[.int .u8,.int .u8,.int .u8,.bool]⟩),(206,⟨1,.other,[.un],[]⟩),(207,⟨4,.struct [(0,1,false),(1,1,false),(2,1,false),(3,1,false)],[.lit .u8 0,.lit .u8 0,.aR false,.aR false],[]⟩),(208,⟨4,.struct [(0,1,false),(1,1,false),(2,1,false),(3,1,false)],[.lit .u8 0,.lit .u8 0,.aR false,.aR false],[.int .u8,.int .u8,.bool,.bool]⟩),(209,⟨1,.slice 123 3 24,[.nil],[]⟩),(210,⟨1,.other,[.un],[]⟩),(211,⟨1,.other,[.un],[]⟩),(213,⟨1,.other,[.un],[]⟩),(214,⟨1,.other,[.un],[]⟩),(215,⟨1,.other,[.un],[]⟩),(216,⟨1,.map 219 3 (.arr 2 (.int .i64)) .int false,[.un],[]⟩),(218,⟨1,.other,[.un],[]⟩),(219,⟨2,.array 2 3 1 false,[.lit .i64 0,.lit .i64 0],[.int .i64,.int .i64]⟩),(220,⟨1,.other,[.un],[]⟩),(221,⟨1,.other,[.un],[]⟩),(222,⟨1,.other,[.un],[]⟩),(223,⟨1,.other,[.un],[]⟩),(224,⟨1,.other,[.un],[]⟩),(225,⟨1,.other,[.un],[]⟩),(226,⟨1,.other,[.un],[]⟩),(227,⟨1,.other,[.un],[]⟩),(228,⟨1,.other,[.un],[]⟩),(229,⟨1,.other,[.un],[]⟩),(230,⟨1,.other,[.un],[]⟩),(231,⟨1,.other,[.un],[]⟩),(232,⟨1,.other,[.un],[]⟩),(233,⟨5,.struct [(0,1,false),(1,1,false),(2,1,false),(3,1,false),(4,1,false)],[.lit .i64 0,.lit .i64 0,.lit .i64 0,.lit .i64 0,.lit .i64 0],[]⟩),(234,⟨5,.struct [(0,1,false),(1,1,false),(2,1,false),(3,1,false),(4,1,false)],[.lit .i64 0,.lit .i64 0,.lit .i64 0,.lit .i64 0,.lit .i64 0],[.int .i64,.int .i64,.int .i64,.int .i64,.int .i64]⟩),(235,⟨1,.other,[.un],[]⟩),(236,⟨1,.other,[.un],[]⟩),(237,⟨1,.other,[.un],[]⟩),(239,⟨1,.other,[.un],[]⟩),(241,⟨1,.other,[.un],[]⟩),(242,⟨1,.other,[.un],[]⟩),(243,⟨1,.other,[.un],[]⟩),(244,⟨1,.other,[.un],[]⟩),(245,⟨1,.other,[.un],[]⟩),(246,⟨1,.other,[.un],[]⟩),(248,⟨1,.other,[.un],[]⟩),(249,⟨1,.other,[.un],[]⟩),(250,⟨1,.other,[.un],[]⟩),(251,⟨1,.other,[.un],[]⟩),(252,⟨1,.other,[.un],[]⟩),(253,⟨1,.other,[.un],[]⟩),(254,⟨1,.other,[.un],[]⟩),(255,⟨1,.other,[.un],[]⟩),(256,⟨1,.other,[.un],[]⟩),(257,⟨1,.other,[.un],[]⟩),(258,⟨1,.other,[.un],[]⟩),(259,⟨1,.other,[.un],[]⟩),(260,⟨1,.other,[.un],[]⟩),(261,⟨1,.other,[.un],[]⟩),(262,⟨1,.other,[.un],[]⟩),(263,⟨1,.other,[.un],[]⟩),(264,⟨1,.other,[.un],[]⟩),(265,⟨1,.other,[.un],[]⟩),(266,⟨1,.other,[.un],[]⟩),(267,⟨1,.other,[.un],[]⟩),(268,⟨1,.other,[.un],[]⟩),(269,⟨1,.other,[.un],[]⟩),(270,⟨1,.other,[.un],[]⟩),(271,⟨1,.map 9 3 (.one .str) .int false,[.un],[]⟩),(272,⟨1,.other,[.un],[]⟩),(273,⟨1,.other,[.un],[]⟩),(274,⟨1,.other,[.un],[]⟩),(275,⟨1,.other,[.un],[]⟩),(276,⟨1,.other,[.un],[]⟩),(277,⟨1,.other,[.un],[]⟩),(278,⟨1,.other,[.un],[]⟩),(280,⟨1,.other,[.un],[]⟩),(281,⟨1,.other,[.un],[]⟩),(282,⟨1,.other,[.un],[]⟩),(283,⟨1,.other,[.un],[]⟩),(284,⟨1,.other,[.un],[]⟩),(285,⟨1,.other,[.un],[]⟩),(286,⟨1,.map 142 3 (.arr 3 (.int .i64)) .int false,[.un],[]⟩),(287,⟨1,.other,[.un],[]⟩),(288,⟨1,.other,[.un],[]⟩),(289,⟨1,.other,[.un],[]⟩),(290,⟨1,.other,[.un],[]⟩),(291,⟨1,.other,[.un],[]⟩),(292,⟨1,.other,[.un],[]⟩),(293,⟨1,.other,[.un],[]⟩),(294,⟨1,.other,[.un],[]⟩),(295,⟨1,.other,[.un],[]⟩),(296,⟨1,.slice 37 1 8,[.nil],[]⟩),(297,⟨1,.other,[.un],[]⟩),(298,⟨1,.other,[.un],[]⟩),(299,⟨1,.other,[.un],[]⟩),(300,⟨1,.other,[.un],[]⟩),(301,⟨1,.other,[.un],[]⟩),(302,⟨1,.other,[.un],[]⟩),(303,⟨1,.other,[.un],[]⟩),(304,⟨1,.other,[.un],[]⟩),(306,⟨1,.other,[.un],[]⟩),(307,⟨1,.other,[.un],[]⟩),(308,⟨1,.slice 310 3 24,[.nil],[]⟩),(309,⟨3,.struct [(0,1,false),(1,1,false),(2,1,false)],[.lit .i64 0,.lit .i64 0,.lit .i64 0],[]⟩),(310,⟨3,.struct [(0,1,false),(1,1,false),(2,1,false)],[.lit .i64 0,.lit .i64 0,.lit .i64 0],[.int .i64,.int .i64,.int .i64]⟩),(311,⟨1,.other,[.un],[]⟩),(312,⟨1,.other,[.un],[]⟩),(313,⟨1,.other,[.un],[]⟩),(314,⟨1,.other,[.un],[]⟩),(315,⟨1,.other,[.un],[]⟩),(316,⟨1,.other,[.un],[]⟩),(317,⟨1,.other,[.un],[]⟩),(318,⟨1,.other,[.un],[]⟩),(319,⟨11,.array 11 289 1 false,[.un,.un,.un,.un,.un,.un,.un,.un,.un,.un,.un],[]⟩),(320,⟨1,.other,[.un],[]⟩),(321,⟨1,.other,[.un],[]⟩),(322,⟨1,.other,[.un],[]⟩),(323,⟨4,.struct [(0,1,false),(1,1,false),(2,1,false),(3,1,false)],[.un,.un,.un,.str fun _=>j3],[]⟩),(325,⟨0,.array 0 16 1 false,[],[]⟩),(326,⟨0,.struct [(0,0,true)],[],[]⟩),(328,⟨1,.other,[.un],[]⟩),(331,⟨1,.other,[.un],[]⟩),(332,⟨1,.other,[.un],[]⟩),(335,⟨11,.struct [(0,1,false),(1,1,false),(2,1,false),(3,1,false),(4,1,false),(5,1,false),(6,1,false),(7,1,false),(8,1,false),(9,1,false),(10,1,false)],[.lit .u64 0,.lit .u64 0,.lit .u32 0,.lit .u8 0,.lit .u8 0,.lit .u8 0,.lit .u8 0,.un,.un,.lit .i32 0,.lit .i32 0],[]⟩)]
theorem ao6:AO.all (fun p=>fV Tryz.prog p.1 p.2)=true:=by kernel_rfl
theorem ab0{α:Type}:∀ {l:List (Nat × α)} {k:Nat} {x : α},aj l k=some x->(k,x)∈l
 | (j,y)::l,k,x,h=>by
  rw [cm] at h;split at h
  . rename_i hk;subst hk;cases h;exact .head _
  . exact .tail _ (ab0 h)
theorem ab1{P:Program}{tb:j9}(h:tb.all (fun p=>fV P p.1 p.2)=true):cT P tb:=fun _ _ hl=>dL.1 h _ (ab0 hl)
theorem yW:cT Tryz.prog AO:=ab1 ao6
def yX:List (Nat×Tc) := [(3,.int),(5,.u8),(41,.wx),(45,.bZ),(49,.u32),(52,.kZ),(55,.cr),(70,.int),(73,.ld),(94,.wx),(108,.kZ),(110,.cr),(121,.di),(123,.slot),(125,.al),(127,.au),(134,.iF),(136,.j5),(141,.box),(148,.mid),(162,.qw),(167,.eQ),(204,.fp),(208,.gq),(234,.fU),(310,.pA)]
open Go.RowKit
def o4:List aN->Prop
 | []=>True
 | c::cs=>aU Tryz.prog c/\o4 cs
theorem o4.mem:∀ {cs:List aN},o4 cs->∀ c∈cs,aU Tryz.prog c
 | [],_,c,hc=>by cases hc
 | d::cs,h,c,hc=>by
  rcases fM.1 hc with rfl|hc
  . exact h.1
  . exact o4.mem h.2 c hc
def qQ:List fO->Prop
 | []=>True
 | c::cs=>ij Tryz.prog c/\qQ cs
theorem qQ.mem:∀ {cs:List fO},qQ cs->∀ c∈cs,ij Tryz.prog c
 | [],_,c,hc=>by cases hc
 | d::cs,h,c,hc=>by
  rcases fM.1 hc with rfl|hc
  . exact h.1
  . exact qQ.mem h.2 c hc
def Gx:List It->Prop
 | []=>True
 | c::cs=>qK Tryz.prog c/\Gx cs
theorem Gx.mem:∀ {cs:List It},Gx cs->∀ c∈cs,qK Tryz.prog c
 | [],_,c,hc=>by cases hc
 | d::cs,h,c,hc=>by
  rcases fM.1 hc with rfl|hc
  . exact h.1
  . exact Gx.mem h.2 c hc
def LC(cs:List aN)(fs:List fO)(fz:List (Nat×List Nat))(fx:Bool)(nb:Nat:=0):Cx := { ty:=AO,cs:=cs,tc:=yX,fs:=fs,fz:=fz,fx:=fx,nb:=nb }
def R6(cs:List aN)(fs:List fO)(fz:List (Nat×List Nat)):Cx:=LC cs fs fz false
def cx(cs:List aN)(fs:List fO):Cx:=R6 cs fs []
def cxk(cs:List aN)(fs:List fO)(fz kp:List (Nat×List Nat))(sc:List (Nat×mm))(ul:List Nat):Cx := { ty:=AO,cs:=cs,tc:=yX,fs:=fs,fz:=fz,kp:=kp,sc:=sc,ul:=ul }
structure Opt where
 fz:List (Nat×List Nat) := []
 kp:List (Nat×List Nat) := []
 sc:List (Nat×mm) := []
 ul:List Nat := []
 jn:List (Nat×List Nat) := []
 tc:List (Nat×Tc) := []
 lt:List (Nat×yu) := []
 ct:List Nat := []
def u4(o:Opt)(cs:List aN)(fs:List fO)(fx:Bool)(nb:Nat:=0):Cx:=⟨AO,cs,o.tc++yX,fs,o.fz,fx,o.kp,o.sc,o.ul,o.jn,o.lt,nb,o.ct,[],none⟩
theorem fH(o)(cs)(aF : o4 cs)(fs)(ir : qQ fs)(hf : Tryz.prog.funcs[c.f]? = some fn)(hb : (fn.body.isNone || fn.name == "runtime.NumGoroutine" || !codeOk (kn fs) o.sc o.lt fn.ntmps (kx fn)) = false)(h:∀ ai res,c.go ai=some res->res.pre ()->∃ Ls,(yC (u4 o cs fs false) Ls fn ai res.av).P):aU Tryz.prog c:=by
 simp only [kf,ke] at hb;exact Gw (C:=u4 o cs fs false) yW ⟨aF.mem,ir.mem,fun _ h=>by cases h⟩ rfl (by kernel_rfl) hf hb.1.1 hb.1.2 hb.2 h
theorem Gy(o){c : fO}(cs)(aF : o4 cs)(fs)(ir : qQ fs)(hf : Tryz.prog.funcs[c.f]? = some fn)(hb : (fn.body.isNone || fn.name == "runtime.NumGoroutine" || !codeOk (kn fs) o.sc o.lt fn.ntmps (kx fn)) = false)(h:∀ ai es res,c.go ai es=some res->res.pre ()->∃ Ls,(Am (u4 o cs fs c.fix c.n) Ls fn ai es c.n res.av res.es).P):ij Tryz.prog c:=by
 simp only [kf,ke] at hb;exact abZ (C:=u4 o cs fs c.fix c.n) rfl yW ⟨aF.mem,ir.mem,fun _ h=>by cases h⟩ rfl (by kernel_rfl) hf hb.1.1 hb.1.2 hb.2 h
theorem R7(o)(cs)(aF : o4 cs)(fs)(ir : qQ fs)(lQ)(ao7 : Gx lQ)(hf : Tryz.prog.funcs[c.f]? = some fn)(hb : (fn.body.isNone || fn.name == "runtime.NumGoroutine" || !codeOk (kn fs) o.sc o.lt fn.ntmps (kx fn)) = false)(h:∀ ai res,c.go ai=some res->res.pre ()->∃ Ls,(yC { u4 o cs fs false with lQ:=lQ } Ls fn ai res.av).P):aU Tryz.prog c:=by
 simp only [kf,ke] at hb;exact Gw (C := { u4 o cs fs false with lQ:=lQ }) yW ⟨aF.mem,ir.mem,ao7.mem⟩ rfl (by kernel_rfl) hf hb.1.1 hb.1.2 hb.2 h
theorem ab4(o){c : It}(cs)(aF : o4 cs)(hf : Tryz.prog.funcs[c.f]? = some fn)(hb : (fn.body.isNone || fn.name == "runtime.NumGoroutine" || !codeOk [999999999] o.sc o.lt fn.ntmps (kx fn)) = false)(h:∀ ai res,c.go ai=some res->res.pre ()->∀ l,∃ Ls,(Qi (u4 o cs [] false 1) Ls fn ai l res).P):qK Tryz.prog c:=by
 simp only [kf,ke] at hb;exact ao0 (C:=u4 o cs [] false 1) yW ⟨aF.mem,(fun _ h=>by cases h),fun _ h=>by cases h⟩ rfl (by kernel_rfl) hf hb.1.1 hb.1.2 hb.2 h
theorem ab5{α:Type}:∀ {l m:List (Nat × α)} {k:Nat} {x : α},aj (l++m) k=some x->aj l k=some x\/aj m k=some x
 | [],m,k,x,h => .inr h
 | (j,y)::l,m,k,x,h=>by
  rw [kW,cm] at h;rw [cm];split at h
  . rename_i hk;rw [aC hk];exact .inl h
  . rename_i hk;rw [aw hk];exact ab5 h
theorem ao8{P:Program}{W t:j9}(h:(W.all fun p=>fV P p.1 p.2)=true)(h2:cT P t):cT P (W++t):=fun T i hl=>(ab5 hl).elim (ab1 h T i) (h2 T i)
theorem ao9(o : Opt)(W : j9)(hW : (W.all fun p => fV Tryz.prog p.1 p.2) = true)(cs : List aN)(aF : o4 cs)(fs : List fO)(ir : qQ fs)(hf : Tryz.prog.funcs[c.f]? = some fn)(hb : (fn.body.isNone || fn.name == "runtime.NumGoroutine" || !codeOk (kn fs) o.sc o.lt fn.ntmps (kx fn)) = false)(h:∀ ai res,c.go ai=some res->res.pre ()->∃ Ls,(yC { u4 o cs fs false with ty:=W++AO } Ls fn ai res.av).P):aU Tryz.prog c:=by
 simp only [kf,ke] at hb;exact Gw (C := { u4 o cs fs false with ty:=W++AO }) (ao8 hW yW) ⟨aF.mem,ir.mem,fun _ h=>by cases h⟩ rfl (by kernel_rfl) hf hb.1.1 hb.1.2 hb.2 h
theorem apa(fz kp)(sc)(cs)(aF : o4 cs)(fs)(ir : qQ fs)(hf : Tryz.prog.funcs[c.f]? = some fn)(hb : (fn.body.isNone || fn.name == "runtime.NumGoroutine" || !codeOk (kn fs) sc [] fn.ntmps (kx fn)) = false)(h:∀ ai res,c.go ai=some res->res.pre ()->∃ Ls,(yC (cxk cs fs fz kp sc []) Ls fn ai res.av).P):aU Tryz.prog c:=by
 simp only [kf,ke] at hb;exact Gw (C:=cxk cs fs fz kp sc []) yW ⟨aF.mem,ir.mem,fun _ h=>by cases h⟩ rfl (by kernel_rfl) hf hb.1.1 hb.1.2 hb.2 h
theorem apb(fz)(cs)(aF : o4 cs)(fs)(ir : qQ fs)(hf : Tryz.prog.funcs[c.f]? = some fn)(hb : (fn.body.isNone || fn.name == "runtime.NumGoroutine" || !codeOk (kn fs) [] [] fn.ntmps (kx fn)) = false)(h:∀ ai res,c.go ai=some res->res.pre ()->∃ Ls,(yC (R6 cs fs fz) Ls fn ai res.av).P):aU Tryz.prog c:=by
 simp only [kf,ke] at hb;exact Gw (C:=R6 cs fs fz) yW ⟨aF.mem,ir.mem,fun _ h=>by cases h⟩ rfl (by kernel_rfl) hf hb.1.1 hb.1.2 hb.2 h
theorem apc(cs)(aF : o4 cs)(fs)(ir : qQ fs)(hf : Tryz.prog.funcs[c.f]? = some fn)(hb : (fn.body.isNone || fn.name == "runtime.NumGoroutine" || !codeOk (kn fs) [] [] fn.ntmps (kx fn)) = false)(h:∀ ai res,c.go ai=some res->res.pre ()->∃ Ls,(yC (cx cs fs) Ls fn ai res.av).P):aU Tryz.prog c:=apb [] cs aF fs ir hf hb h
theorem cD(cs)(aF : o4 cs)(hf : Tryz.prog.funcs[c.f]? = some fn)(hb : (fn.body.isNone || fn.name == "runtime.NumGoroutine" || !codeOk [] [] [] fn.ntmps (kx fn)) = false)(h:∀ ai res,c.go ai=some res->res.pre ()->∃ Ls,(yC (cx cs []) Ls fn ai res.av).P):aU Tryz.prog c:=apc cs aF [] trivial hf hb h
theorem apd(fz){c : fO}(cs)(aF : o4 cs)(fs)(ir : qQ fs)(hf : Tryz.prog.funcs[c.f]? = some fn)(hb : (fn.body.isNone || fn.name == "runtime.NumGoroutine" || !codeOk (kn fs) [] [] fn.ntmps (kx fn)) = false)(h:∀ ai es res,c.go ai es=some res->res.pre ()->∃ Ls,(Am (LC cs fs fz c.fix c.n) Ls fn ai es c.n res.av res.es).P):ij Tryz.prog c:=by
 simp only [kf,ke] at hb;exact abZ (C:=LC cs fs fz c.fix c.n) rfl yW ⟨aF.mem,ir.mem,fun _ h=>by cases h⟩ rfl (by kernel_rfl) hf hb.1.1 hb.1.2 hb.2 h
theorem Gz{c : fO}(cs)(aF : o4 cs)(fs)(ir : qQ fs)(hf : Tryz.prog.funcs[c.f]? = some fn)(hb : (fn.body.isNone || fn.name == "runtime.NumGoroutine" || !codeOk (kn fs) [] [] fn.ntmps (kx fn)) = false)(h:∀ ai es res,c.go ai es=some res->res.pre ()->∃ Ls,(Am (LC cs fs [] c.fix c.n) Ls fn ai es c.n res.av res.es).P):ij Tryz.prog c:=apd [] cs aF fs ir hf hb h
theorem bW(e : α)(h:∀ x,e=x->G):G:=h e rfl
theorem LD(l)(A):(Fm.vc l A).P=(nS l/\A.P):=rfl
theorem R8(c)(A B):(Fm.br c A B).P=((c ()=true->A.P)/\(c ()=false->B.P)):=rfl
theorem GA(l):(Fm.fin l).P=nS l:=rfl
theorem R9(A B):(Fm.and A B).P=(A.P/\B.P):=rfl
theorem Sa(F)(h)(x:F t):yx F h x=x:=rfl
theorem gX(k):NatCast.natCast k=(k:Int):=rfl
theorem ab6(k):Nat.succ k=k+1:=rfl
theorem ape:nS []=True:=rfl
theorem wV(c):nS [c]=c ():=rfl
theorem Dj(c d)(l):nS (c::d::l)=(c ()/\nS (d::l)):=rfl
theorem eta(f:Unit -> α):∃ x,f=fun _=>x:=⟨f (),rfl⟩
theorem Sc(k:Nat):((k:Int) - 1).toNat=k - 1:=oo
theorem aK:(∀ l A,(Fm.vc l A).P=(nS l/\A.P))/\(∀ c A B,(Fm.br c A B).P=((c ()=true->A.P)/\(c ()=false->B.P)))/\(∀ A B,(Fm.and A B).P=(A.P/\B.P))/\(∀ l,(Fm.fin l).P=nS l)/\nS []=True/\(∀ c,nS [c]=c ())/\(∀ c d l,nS (c::d::l)=(c ()/\nS (d::l)))/\(∀ (F) (t) (h) (x:F t),yx F h x=x)/\(∀ k,NatCast.natCast k=(k:Int))/\(∀ k,Nat.succ k=k+1)/\(∀ k:Nat,(k:Int).toNat=k)/\(∀ k:Nat,((k:Int) - 1).toNat=k - 1)/\(∀ (p) [Decidable p],(decide p=true)=p)/\(∀ (p) [Decidable p],(decide p=false)=¬ p)/\(∀ (α β:Type) (f : α -> β) (a) (l),List.map f (a::l)=f a::List.map f l)/\(∀ (α β:Type) (f : α -> β),List.map f [] = [])/\(∀ (α:Type) (a b : α),cond true a b=a)/\∀ (α:Type) (a b : α),cond false a b=b :=
 ⟨LD,R8,R9,GA,ape,wV,Dj,fun _ _ h x=>Sa _ h x,gX,ab6,fE,Sc,fun _ _=>aL,fun _ _=>propext fQ,fun _ _ _ _ _=>rfl,fun _ _ _=>rfl,fun _ _ _=>rfl,fun _ _ _=>rfl⟩
theorem fm{F:Fm}(q:Q)(h:Q->F.P:=by intro q; (conv=>arg 1; cbv); simp (maxSteps:=4000000) only [aK,bu,bn,bX]; exact q):F.P:=h q
def AV.valOf:AV->Value
 | .int k n => .int k (n ())
 | .lit k n => .int k n
 | .bool b => .bool (b ())
 | .aR b => .bool b
 | .str s => .string (s ())
 | _=>undef
def AV.flat:AV->Bool
 | .int _ _=>true
 | .lit _ _=>true
 | .bool _=>true
 | .aR _=>true
 | .str _=>true
 | _=>false
section
variable{w w':World}{ρ ρ':Nat->Option Rl}{base j7:Nat}{ro ro':Nat->Prop}{v:Value}
theorem af.GB{x:AV}(hx:x.flat=true)(h:af w ρ base ro x v):v=x.valOf:=by
 cases x<;>simp only [AV.flat,dV] at hx
 . exact h.iw
 . exact h.mh
 . exact h.oJ
 . exact h.pD
 . exact h.zX
theorem apf{x:AV}(hx:x.flat=true):af w ρ base ro x x.valOf:=by
 cases x<;>simp only [AV.flat,dV] at hx
 . exact .int _ _
 . exact .lit _ _
 . exact .bool _
 . exact .aR _
 . exact .str _
theorem aV.GB:∀ {l:List AV} {vs:List Value},l.all AV.flat=true->aV w ρ base ro l vs->vs=l.map AV.valOf
 | [],vs,_,h=>h.none
 | x::l,vs,hl,h=>by
  simp only [IQ,ax] at hl
  cases vs with
  | nil=>have:=h.1; simp at this
  | cons v vs =>
   have h1:=h.2 0 x v rfl rfl;have h2:aV w ρ base ro l vs:=⟨by have:=h.1; simpa using this,fun j y u hy hu=>h.2 (j+1) y u zQ (by simpa using hu)⟩
   rw [h1.GB hl.1,aV.GB hl.2 h2];rfl
theorem GC:∀ {l:List AV},l.all AV.flat=true->aV w ρ base ro l (l.map AV.valOf)
 | [],_ => .nil
 | x::l,hl=>by
  simp only [IQ,ax] at hl;exact .cons (apf hl.1) (GC hl.2)
theorem af.ab7{l:List AV}(hl:l.all AV.flat=true)(h:af w ρ base ro (.agg l) v):v = .agg (l.map AV.valOf).toArray:=by
 obtain⟨vs,rfl,hE⟩:=h.oK;rw [hE.GB hl]
theorem apg{l:List AV}(hl:l.all AV.flat=true):af w ρ base ro (.agg l) (.agg (l.map AV.valOf).toArray):=by
 have hE:aV w ρ base ro l (l.map AV.valOf):=GC hl;exact .agg _ _ hE.1 hE.2
theorem Sd{x y:AV}{u:Value}(hx:af w ρ base ro x u)(hy:af w ρ base ro y v):af w ρ base ro (.ba [x,y]) (.tuple #[u,v]):=by
 have hE:aV w ρ base ro [x,y] [u,v] := .cons hx (.cons hy .nil);exact .ba _ _ hE.1 hE.2
theorem af.LF{fr:Bool}{l:Unit->List t.el}(f)(ht:∀ x,(aP fr t fun _=>x).all AV.flat=true)(hf:∀ x,(aP fr t fun _=>x).map AV.valOf=f x)(h:af w ρ base ro (.sl fr t l) v):∃ A c,v = .slice A (l ()).length c/\(l ()).length<=c/\Rd w w.heap.size t.size A ((l ()).map f):=by
 obtain⟨A,c,css,h1,h2,h3,_,_,h6,rfl⟩:=h.pE;refine⟨A,c,rfl,oo,?_⟩;have:css=(l ()).map f:=by
  apply vL;intro k;rw [ga]
  cases hk:css[k]? with
  | none =>
   have:(l ())[k]? = none:=by rw [ai9] at hk ⊢; omega
   rw [this];rfl
  | some cs =>
   have ah:=(cF.1 hk).1;obtain⟨_,_,_,_,hl,_⟩:=h3 k cs hk;have hE:aV w ρ base ro (aP fr t fun _=>(l ()).getD k t.aa) cs:=uH hl fun j y u hy hu=>h6 k cs j y u hk hy hu;rw [hE.GB (ht _),hf,bc oo,du,aX,bc oo];rfl
 rwa [this] at h3
end
theorem Dk(hf : Tryz.prog.funcs[c.f]? = some fn)(hb : (fn.body.isNone || fn.name == "runtime.NumGoroutine") = false)(h:∀ ai res,c.go ai=some res->∀ (w:World) (ra:Nat->Prop) (dM:List Value),aV w (fun _=>none) 0 ra ai dM->res.pre ()->Calls Tryz.prog c.f dM.toArray w fun e w'=>∃ v,e = .returned v/\cW w w'/\af w' (fun _=>none) w.heap.size (fun b=>ra b\/w.heap.size<=b) res.av v):aU Tryz.prog c:=by
 simp only [kf] at hb;exact⟨fun args w=>yV hf hb.1 hb.2 args w,fun ai res jo w ra dM _ hE jr=>h ai res jo w ra dM hE jr⟩
structure Kd where
 T:Type
 sg:Sg
 av:(Unit->T)->AV
 to:AV->Option (Unit->T)
 ok:∀ {x f},to x=some f->x=av f
def LG(f:FuncId)(pre:Prop)(res:AV):aN:=⟨f,[],fun
 | []=>some ⟨fun _=>pre,res⟩
 | _=>none⟩
theorem ab8{f:FuncId}{pre:Prop}{res:AV}{ai:List AV}(h:(LG f pre res).go ai=some r):ai = []/\r=⟨fun _=>pre,res⟩:=by
 simp only [LG] at h;split at h
 case h_2=>cases h
 cases h;exact⟨rfl,rfl⟩
def fY(f:FuncId)(A:Kd)(pre:(Unit->A.T)->Prop)(res:(Unit->A.T)->AV):aN:=⟨f,[A.sg],fun
 | [x0]=>(A.to x0).bind fun a=>some ⟨fun _=>pre a,res a⟩
 | _=>none⟩
theorem gM{f:FuncId}{A:Kd}{pre:(Unit->A.T)->Prop}{res:(Unit->A.T)->AV}{ai:List AV}(h:(fY f A pre res).go ai=some r):∃ (a:A.T),ai = [A.av fun _=>a]/\r=⟨fun _=>pre fun _=>a,res fun _=>a ⟩:=by
 simp only [fY] at h;exact ab9
def c6(f:FuncId)(A B:Kd)(pre:(Unit->A.T)->(Unit->B.T)->Prop)(res:(Unit->A.T)->(Unit->B.T)->AV):aN:=⟨f,[A.sg,B.sg],fun
 | [x0,x1]=>(A.to x0).bind fun a=>(B.to x1).bind fun b=>some ⟨fun _=>pre a b,res a b⟩
 | _=>none⟩
theorem dh{f:FuncId}{A B:Kd}{pre:(Unit->A.T)->(Unit->B.T)->Prop}{res:(Unit->A.T)->(Unit->B.T)->AV}{ai:List AV}(h:(c6 f A B pre res).go ai=some r):∃ (a:A.T) (b:B.T),ai = [A.av fun _=>a,B.av fun _=>b]/\r=⟨fun _=>pre (fun _=>a) fun _=>b,res (fun _=>a) fun _=>b ⟩:=by
 simp only [c6] at h;exact aca
def qR(f:FuncId)(A B C:Kd)(pre:(Unit->A.T)->(Unit->B.T)->(Unit->C.T)->Prop)(res:(Unit->A.T)->(Unit->B.T)->(Unit->C.T)->AV):aN:=⟨f,[A.sg,B.sg,C.sg],fun
 | [x0,x1,x2]=>(A.to x0).bind fun a=>(B.to x1).bind fun b=>(C.to x2).bind fun c=>some ⟨fun _=>pre a b c,res a b c⟩
 | _=>none⟩
theorem tE{f:FuncId}{A B C:Kd}{pre:(Unit->A.T)->(Unit->B.T)->(Unit->C.T)->Prop}{res:(Unit->A.T)->(Unit->B.T)->(Unit->C.T)->AV}{ai:List AV}(h:(qR f A B C pre res).go ai=some r):∃ (a:A.T) (b:B.T) (c:C.T),ai = [A.av fun _=>a,B.av fun _=>b,C.av fun _=>c]/\r=⟨fun _=>pre (fun _=>a) (fun _=>b) fun _=>c,res (fun _=>a) (fun _=>b) fun _=>c ⟩:=by
 simp only [qR] at h;split at h
 case h_2=>cases h
 simp only [mQ,bF] at h;obtain⟨a,e0,b,e1,c,e2,rfl⟩:=h;obtain rfl:=A.ok e0;obtain rfl:=B.ok e1;obtain rfl:=C.ok e2;exact⟨a (),b (),c (),rfl,rfl⟩
def u5(f:FuncId)(A B C D:Kd)(pre:(Unit->A.T)->(Unit->B.T)->(Unit->C.T)->(Unit->D.T)->Prop)(res:(Unit->A.T)->(Unit->B.T)->(Unit->C.T)->(Unit->D.T)->AV):aN:=⟨f,[A.sg,B.sg,C.sg,D.sg],fun
 | [x0,x1,x2,x3]=>(A.to x0).bind fun a=>(B.to x1).bind fun b=>(C.to x2).bind fun c=>(D.to x3).bind fun d=>some ⟨fun _=>pre a b c d,res a b c d⟩
 | _=>none⟩
theorem yY{f:FuncId}{A B C D:Kd}{pre:(Unit->A.T)->(Unit->B.T)->(Unit->C.T)->(Unit->D.T)->Prop}{res:(Unit->A.T)->(Unit->B.T)->(Unit->C.T)->(Unit->D.T)->AV}{ai:List AV}(h:(u5 f A B C D pre res).go ai=some r):∃ (a:A.T) (b:B.T) (c:C.T) (d:D.T),ai = [A.av fun _=>a,B.av fun _=>b,C.av fun _=>c,D.av fun _=>d]/\r=⟨fun _=>pre (fun _=>a) (fun _=>b) (fun _=>c) fun _=>d,res (fun _=>a) (fun _=>b) (fun _=>c) fun _=>d ⟩:=by
 simp only [u5] at h;split at h
 case h_2=>cases h
 simp only [mQ,bF] at h;obtain⟨a,e0,b,e1,c,e2,d,e3,rfl⟩:=h;obtain rfl:=A.ok e0;obtain rfl:=B.ok e1;obtain rfl:=C.ok e2;obtain rfl:=D.ok e3;exact⟨a (),b (),c (),d (),rfl,rfl⟩
def Se(f:FuncId)(A B C D E F:Kd)(pre:(Unit->A.T)->(Unit->B.T)->(Unit->C.T)->(Unit->D.T)->(Unit->E.T)->(Unit->F.T)->Prop)(res:(Unit->A.T)->(Unit->B.T)->(Unit->C.T)->(Unit->D.T)->(Unit->E.T)->(Unit->F.T)->AV):aN:=⟨f,[A.sg,B.sg,C.sg,D.sg,E.sg,F.sg],fun
 | [x0,x1,x2,x3,x4,x5]=>(A.to x0).bind fun a=>(B.to x1).bind fun b=>(C.to x2).bind fun c=>(D.to x3).bind fun d=>(E.to x4).bind fun e=>(F.to x5).bind fun f=>some ⟨fun _=>pre a b c d e f,res a b c d e f⟩
 | _=>none⟩
theorem aph{f:FuncId}{A B C D E F:Kd}{pre:(Unit->A.T)->(Unit->B.T)->(Unit->C.T)->(Unit->D.T)->(Unit->E.T)->(Unit->F.T)->Prop}{res:(Unit->A.T)->(Unit->B.T)->(Unit->C.T)->(Unit->D.T)->(Unit->E.T)->(Unit->F.T)->AV}{ai:List AV}(h:(Se f A B C D E F pre res).go ai=some r):∃ (a:A.T) (b:B.T) (c:C.T) (d:D.T) (e:E.T) (f:F.T),ai = [A.av fun _=>a,B.av fun _=>b,C.av fun _=>c,D.av fun _=>d,E.av fun _=>e,F.av fun _=>f]/\r=⟨fun _=>pre (fun _=>a) (fun _=>b) (fun _=>c) (fun _=>d) (fun _=>e) fun _=>f,res (fun _=>a) (fun _=>b) (fun _=>c) (fun _=>d) (fun _=>e) fun _=>f ⟩:=by
 simp only [Se] at h;split at h
 case h_2=>cases h
 simp only [mQ,bF] at h;obtain⟨a,e0,b,e1,c,e2,d,e3,e,e4,f,e5,rfl⟩:=h;obtain rfl:=A.ok e0;obtain rfl:=B.ok e1;obtain rfl:=C.ok e2;obtain rfl:=D.ok e3;obtain rfl:=E.ok e4;obtain rfl:=F.ok e5;exact⟨a (),b (),c (),d (),e (),f (),rfl,rfl⟩
def api:List Sg := [.int .i64,.str,.int .u8,.bool,.int .i64,.int .i64,.int .i64,.int .u8,.bool]
def apj:List Sg := [.int .i64,.int .i64,.int .i64,.int .u8]
def acb:List Sg := [.int .i64,.int .i64,.int .u8]
def apk:List Sg := [.int .i64,.int .i64,.bool,.int .i64,.int .i64,.int .i64,.int .i64,.int .i64,.sl .int,.int .i64,.int .i64,.int .i64]
def apl:List Sg := [.sl .au,.sl .eQ,.int .i64,.int .i64,.int .i64,.int .i64,.sl .fU,.sl .bZ,.sl .di,.int .i64,.int .i64,.int .i64,.int .i64]
structure bC where
 aD:List dv
 dG:List lK
 lk:Int
 lx:Int
 ly:Int
 lz:Int
 rows:List zL
 iL:List ar
 eU:List dR
 m1:Int
 m2:Int
 m3:Int
 m4:Int
def LH(b:Unit->aJ):List AV := [.int .i64 fun _=>(b ()).id,.str fun _=>(b ()).num,.int .u8 fun _=>(b ()).size,.bool fun _=>(b ()).high,.int .i64 fun _=>(b ()).aq,.int .i64 fun _=>(b ()).load,.int .i64 fun _=>(b ()).km,.int .u8 fun _=>(b ()).cls,.bool fun _=>(b ()).vZ]
def Dl(b:Unit->Ld):List AV := [.int .i64 fun _=>(b ()).aq,.int .i64 fun _=>(b ()).x,.int .i64 fun _=>(b ()).y,.int .i64 fun _=>(b ()).z]
def acd(b:Unit->az):List AV := [.int .i64 fun _=>(b ()).box,.int .i64 fun _=>(b ()).au,.int .i64 fun _=>(b ()).aH,.int .u8 fun _=>(b ()).half]
def ace(b:Unit->Slot):List AV := [.int .i64 fun _=>(b ()).au,.int .i64 fun _=>(b ()).aH,.int .u8 fun _=>(b ()).half]
def LI(b:Unit->dv):List AV := [.int .i64 fun _=>(b ()).cX,.int .i64 fun _=>(b ()).row,.bool fun _=>(b ()).fl,.int .i64 fun _=>(b ()).cY,.int .i64 fun _=>(b ()).ma,.int .i64 fun _=>(b ()).xP,.int .i64 fun _=>(b ()).xQ,.int .i64 fun _=>(b ()).xR,.sl false .int fun _=>(b ()).fT,.int .i64 fun _=>(b ()).x,.int .i64 fun _=>(b ()).y,.int .i64 fun _=>(b ()).z]
def LJ(b:Unit->bC):List AV := [.sl false .au fun _=>(b ()).aD,.sl false .eQ fun _=>(b ()).dG,.int .i64 fun _=>(b ()).lk,.int .i64 fun _=>(b ()).lx,.int .i64 fun _=>(b ()).ly,.int .i64 fun _=>(b ()).lz,.sl false .fU fun _=>(b ()).rows,.sl false .bZ fun _=>(b ()).iL,.sl false .di fun _=>(b ()).eU,.int .i64 fun _=>(b ()).m1,.int .i64 fun _=>(b ()).m2,.int .i64 fun _=>(b ()).m3,.int .i64 fun _=>(b ()).m4]
def AV.de:AV->Option (Unit->Int)
 | .int .i64 n=>some n
 | _=>none
def AV.AP:AV->Option (Unit->Int)
 | .int .u8 n=>some n
 | _=>none
def AV.Dm:AV->Option (Unit->Bool)
 | .bool n=>some n
 | _=>none
def AV.Sf:AV->Option (Unit->ByteArray)
 | .str n=>some n
 | _=>none
def AV.LK:AV->Option (Unit->List dv)
 | .sl false .au l=>some l
 | _=>none
def AV.Si:AV->Option (Unit->List lK)
 | .sl false .eQ l=>some l
 | _=>none
def AV.GD:AV->Option (Unit->List Int)
 | .sl false .int l=>some l
 | _=>none
def AV.Sl:AV->Option (Unit->List aJ)
 | .sl false .box l=>some l
 | _=>none
def AV.LM:AV->Option (Unit->List az)
 | .sl false .al l=>some l
 | _=>none
def AV.Sm:AV->Option (Unit->List Slot)
 | .sl false .slot l=>some l
 | _=>none
def AV.Sn:AV->Option (Unit->List Ld)
 | .sl false .ld l=>some l
 | _=>none
def AV.So:AV->Option (Unit->List Int)
 | .sl false .u8 l=>some l
 | _=>none
def AV.Sq:AV->Option (Unit->List wa)
 | .sl false .pA l=>some l
 | _=>none
def AV.Sr:AV->Option (Unit->List zL)
 | .sl false .fU l=>some l
 | _=>none
def AV.LN:AV->Option (Unit->List ar)
 | .sl false .bZ l=>some l
 | _=>none
def AV.LO:AV->Option (Unit->List dR)
 | .sl false .di l=>some l
 | _=>none
def AV.Ss:AV->Option (Unit->List iV)
 | .sl false .fp l=>some l
 | _=>none
def AV.Su:AV->Option (Unit->List iW)
 | .sl false .gq l=>some l
 | _=>none
def AV.Sv:AV->Option (Unit->Int)
 | .int .u32 n=>some n
 | _=>none
def AV.Sw:AV->Option (Unit->Int)
 | .bh [.int .i64 n] 0=>some n
 | _=>none
def AV.Sy:AV->Option (Unit->Bool)
 | .bh [.bool n] 0=>some n
 | _=>none
def AV.Sz(f:FuncId):AV->Option (Unit->Int)
 | .fn g [.bh [.int .i64 n] 0]=>if g=f then some n else none
 | _=>none
def AV.SA(f:FuncId):AV->Option (Unit->Unit)
 | .fn g []=>if g=f then some fun _=>() else none
 | _=>none
theorem AV.eJ{x:AV}(h:x.de=some n):x = .int .i64 n:=by
 unfold AV.de at h;split at h<;>cases h
 rfl
abbrev kI:Kd:=⟨Int,.int .i64,fun n => .int .i64 n,AV.de,AV.eJ⟩
theorem AV.GF{x:AV}(h:x.AP=some n):x = .int .u8 n:=by
 unfold AV.AP at h;split at h<;>cases h
 rfl
abbrev yZ:Kd:=⟨Int,.int .u8,fun n => .int .u8 n,AV.AP,AV.GF⟩
theorem AV.LP{x:AV}{n:Unit->Bool}(h:x.Dm=some n):x = .bool n:=by
 unfold AV.Dm at h;split at h<;>cases h
 rfl
abbrev kB:Kd:=⟨Bool,.bool,fun n => .bool n,AV.Dm,AV.LP⟩
theorem AV.apm{x:AV}{n:Unit->ByteArray}(h:x.Sf=some n):x = .str n:=by
 unfold AV.Sf at h;split at h<;>cases h
 rfl
theorem AV.acf{x:AV}{n:Unit->List dv}(h:x.LK=some n):x = .sl false .au n:=by
 unfold AV.LK at h;split at h<;>cases h
 rfl
theorem AV.apn{x:AV}{n:Unit->List lK}(h:x.Si=some n):x = .sl false .eQ n:=by
 unfold AV.Si at h;split at h<;>cases h
 rfl
theorem AV.SB{x:AV}{n:Unit->List Int}(h:x.GD=some n):x = .sl false .int n:=by
 unfold AV.GD at h;split at h<;>cases h
 rfl
abbrev u6:Kd:=⟨List Int,.sl .int,fun n => .sl false .int n,AV.GD,AV.SB⟩
theorem AV.apo{x:AV}{n:Unit->List aJ}(h:x.Sl=some n):x = .sl false .box n:=by
 unfold AV.Sl at h;split at h<;>cases h
 rfl
abbrev r7:Kd:=⟨List aJ,.sl .box,fun n => .sl false .box n,AV.Sl,AV.apo⟩
theorem AV.acg{x:AV}{n:Unit->List az}(h:x.LM=some n):x = .sl false .al n:=by
 unfold AV.LM at h;split at h<;>cases h
 rfl
abbrev y0:Kd:=⟨List az,.sl .al,fun n => .sl false .al n,AV.LM,AV.acg⟩
theorem AV.apq{x:AV}{n:Unit->List Slot}(h:x.Sm=some n):x = .sl false .slot n:=by
 unfold AV.Sm at h;split at h<;>cases h
 rfl
abbrev SC:Kd:=⟨List Slot,.sl .slot,fun n => .sl false .slot n,AV.Sm,AV.apq⟩
theorem AV.apr{x:AV}{n:Unit->List Ld}(h:x.Sn=some n):x = .sl false .ld n:=by
 unfold AV.Sn at h;split at h<;>cases h
 rfl
abbrev aps:Kd:=⟨List Ld,.sl .ld,fun n => .sl false .ld n,AV.Sn,AV.apr⟩
theorem AV.apt{x:AV}{n:Unit->List Int}(h:x.So=some n):x = .sl false .u8 n:=by
 unfold AV.So at h;split at h<;>cases h
 rfl
abbrev SD:Kd:=⟨List Int,.sl .u8,fun n => .sl false .u8 n,AV.So,AV.apt⟩
theorem AV.apu{x:AV}{n:Unit->List wa}(h:x.Sq=some n):x = .sl false .pA n:=by
 unfold AV.Sq at h;split at h<;>cases h
 rfl
abbrev apv:Kd:=⟨List wa,.sl .pA,fun n => .sl false .pA n,AV.Sq,AV.apu⟩
theorem AV.apw{x:AV}{n:Unit->List zL}(h:x.Sr=some n):x = .sl false .fU n:=by
 unfold AV.Sr at h;split at h<;>cases h
 rfl
theorem AV.ach{x:AV}{n:Unit->List ar}(h:x.LN=some n):x = .sl false .bZ n:=by
 unfold AV.LN at h;split at h<;>cases h
 rfl
abbrev Dn:Kd:=⟨List ar,.sl .bZ,fun n => .sl false .bZ n,AV.LN,AV.ach⟩
theorem AV.aci{x:AV}{n:Unit->List dR}(h:x.LO=some n):x = .sl false .di n:=by
 unfold AV.LO at h;split at h<;>cases h
 rfl
abbrev AQ:Kd:=⟨List dR,.sl .di,fun n => .sl false .di n,AV.LO,AV.aci⟩
theorem AV.apx{x:AV}{n:Unit->List iV}(h:x.Ss=some n):x = .sl false .fp n:=by
 unfold AV.Ss at h;split at h<;>cases h
 rfl
abbrev SE:Kd:=⟨List iV,.sl .fp,fun n => .sl false .fp n,AV.Ss,AV.apx⟩
theorem AV.apy{x:AV}{n:Unit->List iW}(h:x.Su=some n):x = .sl false .gq n:=by
 unfold AV.Su at h;split at h<;>cases h
 rfl
abbrev SF:Kd:=⟨List iW,.sl .gq,fun n => .sl false .gq n,AV.Su,AV.apy⟩
theorem AV.apz{x:AV}(h:x.Sv=some n):x = .int .u32 n:=by
 unfold AV.Sv at h;split at h<;>cases h
 rfl
abbrev SG:Kd:=⟨Int,.int .u32,fun n => .int .u32 n,AV.Sv,AV.apz⟩
theorem AV.apA{x:AV}(h:x.Sw=some n):x = .bh [.int .i64 n] 0:=by
 unfold AV.Sw at h;split at h<;>cases h
 rfl
abbrev GG:Kd:=⟨Int,.bh [.int .i64],fun n => .bh [.int .i64 n] 0,AV.Sw,AV.apA⟩
theorem AV.apB{x:AV}{n:Unit->Bool}(h:x.Sy=some n):x = .bh [.bool n] 0:=by
 unfold AV.Sy at h;split at h<;>cases h
 rfl
abbrev kPB:Kd:=⟨Bool,.bh [.bool],fun n => .bh [.bool n] 0,AV.Sy,AV.apB⟩
theorem AV.apD{x:AV}{f:FuncId}(h:x.Sz f=some n):x = .fn f [.bh [.int .i64 n] 0]:=by
 unfold AV.Sz at h;split at h
 . split at h<;>cases h
   rename_i h;rw [h]
 . cases h
abbrev acj(f:FuncId):Kd:=⟨Int,.fn [.bh [.int .i64]],fun n => .fn f [.bh [.int .i64 n] 0],fun x=>x.Sz f,AV.apD⟩
theorem AV.apE{x:AV}{f:FuncId}{n:Unit->Unit}(h:x.SA f=some n):x = .fn f []:=by
 unfold AV.SA at h;split at h
 . split at h<;>cases h
   rename_i h;rw [h]
 . cases h
abbrev wW(f:FuncId):Kd:=⟨Unit,.fn [],fun n => .fn f [],fun x=>x.SA f,AV.apE⟩
def AV.LQ:AV->Option (Unit->aJ)
 | .agg [a,b,c,d,e,f,g,h,i]=>a.de.bind fun a=>b.Sf.bind fun b=>c.AP.bind fun c=>d.Dm.bind fun d=>e.de.bind fun e=>f.de.bind fun f=>g.de.bind fun g=>h.AP.bind fun h=>i.Dm.bind fun i=>some fun _=>⟨a (),b (),c (),d (),e (),f (),g (),h (),i ()⟩
 | _=>none
def AV.azV:AV->Option (Unit->pz)
 | .agg [a,b,c,d,e,f,g,h,i,x,y,z]=>(AV.LQ (.agg [a,b,c,d,e,f,g,h,i])).bind fun b=>x.de.bind fun x=>y.de.bind fun y=>z.de.bind fun z=>some fun _=>⟨b (),x (),y (),z ()⟩
 | _=>none
def AV.azW:AV->Option (Unit->Ld)
 | .agg [a,b,c,d]=>a.de.bind fun a=>b.de.bind fun b=>c.de.bind fun c=>d.de.bind fun d=>some fun _=>⟨a (),b (),c (),d ()⟩
 | _=>none
def AV.SH:AV->Option (Unit->az)
 | .agg [a,b,c,d]=>a.de.bind fun a=>b.de.bind fun b=>c.de.bind fun c=>d.AP.bind fun d=>some fun _=>⟨a (),b (),c (),d ()⟩
 | _=>none
def AV.SI:AV->Option (Unit->Slot)
 | .agg [a,b,c]=>a.de.bind fun a=>b.de.bind fun b=>c.AP.bind fun c=>some fun _=>⟨a (),b (),c ()⟩
 | _=>none
def AV.SJ:AV->Option (Unit->dv)
 | .agg [a,b,c,d,e,f,g,h,i,j,k,l]=>a.de.bind fun a=>b.de.bind fun b=>c.Dm.bind fun c=>d.de.bind fun d=>e.de.bind fun e=>f.de.bind fun f=>g.de.bind fun g=>h.de.bind fun h=>i.GD.bind fun i=>j.de.bind fun j=>k.de.bind fun k=>l.de.bind fun l=>some fun _=>⟨a (),b (),c (),d (),e (),f (),g (),h (),i (),j (),k (),l ()⟩
 | _=>none
def AV.SK:AV->Option (Unit->bC)
 | .agg [a,b,c,d,e,f,g,h,i,j,k,l,m]=>a.LK.bind fun a=>b.Si.bind fun b=>c.de.bind fun c=>d.de.bind fun d=>e.de.bind fun e=>f.de.bind fun f=>g.Sr.bind fun g=>h.LN.bind fun h=>i.LO.bind fun i=>j.de.bind fun j=>k.de.bind fun k=>l.de.bind fun l=>m.de.bind fun m=>some fun _=>⟨a (),b (),c (),d (),e (),f (),g (),h (),i (),j (),k (),l (),m ()⟩
 | _=>none
theorem AV.apF{x:AV}{b:Unit->aJ}(h:x.LQ=some b):x = .agg (LH b):=by
 unfold AV.LQ at h;split at h
 . simp only [mQ,bF] at h;obtain⟨a,h1,b,h2,c,h3,d,h4,e,h5,f,h6,g,h7,i,h8,j,h9,rfl⟩:=h;rw [AV.eJ h1,AV.apm h2,AV.GF h3,AV.LP h4,AV.eJ h5,AV.eJ h6,AV.eJ h7,AV.GF h8,AV.LP h9];rfl
 . cases h
abbrev GH:Kd:=⟨aJ,.agg api,fun b => .agg (LH b),AV.LQ,AV.apF⟩
theorem AV.apG{x:AV}{b:Unit->az}(h:x.SH=some b):x = .agg (acd b):=by
 unfold AV.SH at h;split at h
 . simp only [mQ,bF] at h;obtain⟨a,h1,b,h2,c,h3,d,h4,rfl⟩:=h;rw [AV.eJ h1,AV.eJ h2,AV.eJ h3,AV.GF h4];rfl
 . cases h
abbrev ack:Kd:=⟨az,.agg apj,fun b => .agg (acd b),AV.SH,AV.apG⟩
theorem AV.apH{x:AV}{b:Unit->Slot}(h:x.SI=some b):x = .agg (ace b):=by
 unfold AV.SI at h;split at h
 . simp only [mQ,bF] at h;obtain⟨a,h1,b,h2,c,h3,rfl⟩:=h;rw [AV.eJ h1,AV.eJ h2,AV.GF h3];rfl
 . cases h
abbrev Dp:Kd:=⟨Slot,.agg acb,fun b => .agg (ace b),AV.SI,AV.apH⟩
theorem AV.apI{x:AV}{b:Unit->dv}(h:x.SJ=some b):x = .agg (LI b):=by
 unfold AV.SJ at h;split at h
 . simp only [mQ,bF] at h;obtain⟨a,h1,b,h2,c,h3,d,h4,e,h5,f,h6,g,h7,i,h8,j,h9,k,oF,l,qS,m,SL,rfl⟩:=h;rw [AV.eJ h1,AV.eJ h2,AV.LP h3,AV.eJ h4,AV.eJ h5,AV.eJ h6,AV.eJ h7,AV.eJ h8,AV.SB h9,AV.eJ oF,AV.eJ qS,AV.eJ SL];rfl
 . cases h
abbrev SM:Kd:=⟨dv,.agg apk,fun b => .agg (LI b),AV.SJ,AV.apI⟩
theorem AV.apJ{x:AV}{b:Unit->bC}(h:x.SK=some b):x = .agg (LJ b):=by
 unfold AV.SK at h;split at h
 . simp only [mQ,bF] at h;obtain⟨a,h1,b,h2,c,h3,d,h4,e,h5,f,h6,g,h7,i,h8,j,h9,k,oF,l,qS,m,SL,n,h13,rfl⟩:=h;rw [AV.acf h1,AV.apn h2,AV.eJ h3,AV.eJ h4,AV.eJ h5,AV.eJ h6,AV.apw h7,AV.ach h8,AV.aci h9,AV.eJ oF,AV.eJ qS,AV.eJ SL,AV.eJ h13];rfl
 . cases h
abbrev tF:Kd:=⟨bC,.agg apl,fun b => .agg (LJ b),AV.SK,AV.apJ⟩
def AV.acm:AV->Option (Unit->zL)
 | .agg [a0,a1,a2,a3,a4]=>a0.de.bind fun a0=>a1.de.bind fun a1=>a2.de.bind fun a2=>a3.de.bind fun a3=>a4.de.bind fun a4=>some fun _=>⟨a0 (),a1 (),a2 (),a3 (),a4 ()⟩
 | _=>none
theorem AV.azX{x:AV}{b:Unit->zL}(h:x.acm=some b):x = .agg (aP false .fU b):=by
 unfold AV.acm at h;exact acn
def apL:List Sg := [.int .i64,.int .i64,.int .i64,.int .i64,.int .i64]
def AV.SN:AV->Option (Unit->ar)
 | .agg [a0,a1,a2,a3,a4]=>a0.de.bind fun a0=>a1.de.bind fun a1=>a2.de.bind fun a2=>a3.de.bind fun a3=>a4.de.bind fun a4=>some fun _=>⟨a0 (),a1 (),a2 (),a3 (),a4 ()⟩
 | _=>none
theorem AV.apM{x:AV}{b:Unit->ar}(h:x.SN=some b):x = .agg (aP false .bZ b):=by
 unfold AV.SN at h;exact acn
abbrev apN:Kd:=⟨ar,.agg apL,fun b => .agg (aP false .bZ b),AV.SN,AV.apM⟩
def apO:List Sg := [.int .i64,.int .i64,.int .i64,.int .i64,.int .i64,.sl .int]
def AV.SO:AV->Option (Unit->dR)
 | .agg [a0,a1,a2,a3,a4,a5]=>a0.de.bind fun a0=>a1.de.bind fun a1=>a2.de.bind fun a2=>a3.de.bind fun a3=>a4.de.bind fun a4=>a5.GD.bind fun a5=>some fun _=>⟨a0 (),a1 (),a2 (),a3 (),a4 (),a5 ()⟩
 | _=>none
theorem AV.apP{x:AV}{b:Unit->dR}(h:x.SO=some b):x = .agg (aP false .di b):=by
 unfold AV.SO at h;split at h
 . simp only [mQ,bF] at h;obtain⟨a0,h0,a1,h1,a2,h2,a3,h3,a4,h4,a5,h5,rfl⟩:=h;rw [AV.eJ h0,AV.eJ h1,AV.eJ h2,AV.eJ h3,AV.eJ h4,AV.SB h5];rfl
 . cases h
abbrev aco:Kd:=⟨dR,.agg apO,fun b => .agg (aP false .di b),AV.SO,AV.apP⟩
def LR:List Sg := .bool::List.replicate 16 (.int .u32)
def AV.LS:AV->Option (Unit->List Int)
 | .sl false .u32 l=>some l
 | _=>none
theorem AV.acp{x:AV}{n:Unit->List Int}(h:x.LS=some n):x = .sl false .u32 n:=by
 unfold AV.LS at h;split at h<;>cases h
 rfl
abbrev kD:Kd:=⟨List Int,.sl .u32,fun n => .sl false .u32 n,AV.LS,AV.acp⟩
def AV.SP:AV->Option (Unit->Int)
 | .int .u64 n=>some n
 | _=>none
theorem AV.apQ{x:AV}(h:x.SP=some n):x = .int .u64 n:=by
 unfold AV.SP at h;split at h<;>cases h
 rfl
abbrev apR:Kd:=⟨Int,.int .u64,fun n => .int .u64 n,AV.SP,AV.apQ⟩
def AV.SQ:AV->Option (Unit->List Wt)
 | .sl false .wx l=>some l
 | _=>none
theorem AV.apS{x:AV}{n:Unit->List Wt}(h:x.SQ=some n):x = .sl false .wx n:=by
 unfold AV.SQ at h;split at h<;>cases h
 rfl
abbrev LU:Kd:=⟨List Wt,.sl .wx,fun n => .sl false .wx n,AV.SQ,AV.apS⟩
def AV.SR:AV->Option (Unit->List mb)
 | .sl false .cr l=>some l
 | _=>none
theorem AV.apT{x:AV}{n:Unit->List mb}(h:x.SR=some n):x = .sl false .cr n:=by
 unfold AV.SR at h;split at h<;>cases h
 rfl
abbrev SS:Kd:=⟨List mb,.sl .cr,fun n => .sl false .cr n,AV.SR,AV.apT⟩
def wtL(x:Unit->Wt):List AV:=aP false .wx x
def AV.SU:AV->Option (Unit->Wt)
 | .agg [.int .i64 a,.int .i64 b]=>some fun _=>⟨a (),b ()⟩
 | _=>none
theorem AV.apU{x:AV}{n:Unit->Wt}(h:x.SU=some n):x = .agg (wtL n):=by
 unfold AV.SU at h;split at h<;>cases h
 rfl
abbrev kWt:Kd:=⟨Wt,.agg [.int .i64,.int .i64],fun n => .agg (wtL n),AV.SU,AV.apU⟩
def GI(x:Unit->ak):List AV:=aP false .qw x
def AV.SV:AV->Option (Unit->ak)
 | .agg [.int .i64 a,.int .i64 b,.int .i64 c,.int .i64 d,.int .i64 e,.int .i64 f]=>some fun _=>⟨a (),b (),c (),d (),e (),f ()⟩
 | _=>none
theorem AV.apW{x:AV}{n:Unit->ak}(h:x.SV=some n):x = .agg (GI n):=by
 unfold AV.SV at h;split at h<;>cases h
 rfl
abbrev acr:Kd:=⟨ak,.agg [.int .i64,.int .i64,.int .i64,.int .i64,.int .i64,.int .i64],fun n => .agg (GI n),AV.SV,AV.apW⟩
def AV.SW:AV->Option (Unit->bB)
 | .agg l=>wu l
 | _=>none
theorem AV.apX{x:AV}{n:Unit->bB}(h:x.SW=some n):x = .agg (aP false .kZ n):=by
 unfold AV.SW at h;split at h
 . rw [(Ab h).1]
 . cases h
abbrev nk:Kd:=⟨bB,.agg LR,fun n => .agg (aP false .kZ n),AV.SW,AV.apX⟩
def AV.SX:AV->Option (Unit->bB)
 | .bh l 0=>wu l
 | _=>none
theorem AV.apY{x:AV}{n:Unit->bB}(h:x.SX=some n):x = .bh (aP false .kZ n) 0:=by
 unfold AV.SX at h;split at h
 . rw [(Ab h).1]
 . cases h
abbrev apZ:Kd:=⟨bB,.bh LR,fun n => .bh (aP false .kZ n) 0,AV.SX,AV.apY⟩
def SY(K:Kd):Kd:=⟨K.T,.bh [K.sg],fun f => .bh [K.av f] 0,fun
 | .bh [x] 0=>K.to x
 | _=>none,fun {x f} h=>by
  split at h
  . rw [K.ok h]
  . cases h⟩
def SZ(f:FuncId)(A:Kd)(pre:(Unit->A.T)->Prop)(n:(Unit->A.T)->Nat)(el:(Unit->A.T)->(Unit->Nat)->List AV):It:=⟨f,[A.sg],fun
 | [x0]=>(A.to x0).bind fun a=>some ⟨fun _=>pre a,fun _=>n a,el a⟩
 | _=>none⟩
theorem ap0{f:FuncId}{A:Kd}{pre:(Unit->A.T)->Prop}{n:(Unit->A.T)->Nat}{el:(Unit->A.T)->(Unit->Nat)->List AV}{ai:List AV}{r:Ju}(h:(SZ f A pre n el).go ai=some r):∃ (a:A.T),ai = [A.av fun _=>a]/\r=⟨fun _=>pre fun _=>a,fun _=>n fun _=>a,el fun _=>a ⟩:=by
 simp only [SZ] at h;exact ab9
def S4(f:FuncId)(A B:Kd)(pre:(Unit->A.T)->(Unit->B.T)->Prop)(n:(Unit->A.T)->(Unit->B.T)->Nat)(el:(Unit->A.T)->(Unit->B.T)->(Unit->Nat)->List AV):It:=⟨f,[A.sg,B.sg],fun
 | [x0,x1]=>(A.to x0).bind fun a=>(B.to x1).bind fun b=>some ⟨fun _=>pre a b,fun _=>n a b,el a b⟩
 | _=>none⟩
theorem ap1{f:FuncId}{A B:Kd}{pre:(Unit->A.T)->(Unit->B.T)->Prop}{n:(Unit->A.T)->(Unit->B.T)->Nat}{el:(Unit->A.T)->(Unit->B.T)->(Unit->Nat)->List AV}{ai:List AV}{r:Ju}(h:(S4 f A B pre n el).go ai=some r):∃ (a:A.T) (b:B.T),ai = [A.av fun _=>a,B.av fun _=>b]/\r=⟨fun _=>pre (fun _=>a) fun _=>b,fun _=>n (fun _=>a) fun _=>b,el (fun _=>a) fun _=>b ⟩:=by
 simp only [S4] at h;exact aca
end Go.Proofs.YtamjbkaclhgffaaGreat
